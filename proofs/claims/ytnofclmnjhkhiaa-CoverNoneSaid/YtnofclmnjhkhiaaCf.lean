/- The search for a place. -/
import Derived.Test.YtnofclmnjhkhiaaCb2
import Derived.WalkKit
import Derived.WalkLawsBesides
import Derived.WalkSpells
import Derived.Below
import Derived.Deep.RegionHeld3
import Derived.Deep.QuietTactic
import Derived.BigQuiet
import Derived.Deep.DeepCutAuto
import Derived.Deep.DeepMust
import Derived.KernelRfl
import Derived.Lib.Hide
import Derived.Outline
import Derived.RegionTactic
import Derived.StillTailTactics
namespace Go.Proofs.Ytnofclmnjhkhiaa
open Go.RowKit Go.Cl Go.Cv
set_option maxRecDepth 100000
set_option linter.unusedVariables false
set_option linter.unusedSimpArgs false

attribute [local go_sem] max2_int min2_int max_two min_two
/-- A slice of spans, to be read. -/
def RdL (w : World) (v : Value) (L : List Sp) : Prop := ∃ p cp, v = .slice p L.length cp ∧ ∀ k a, L[k]? = some a → ∃ b o, p = some ⟨b, o, none⟩ ∧ w.cell? ⟨b, o + k * 2, none⟩ = some (.int .i64 a.1) ∧ w.cell? ⟨b, o + k * 2 + 1, none⟩ = some (.int .i64 a.2)
theorem RdL.below {w w' : World} {v : Value} {L : List Sp} (h : RdL w v L) (hb : Below w.heap.size w w') : RdL w' v L := by
  obtain ⟨p, cp, hv, h⟩ := h
  exact ⟨p, cp, hv, fun k a hk => by obtain ⟨b, o, hp, h1, h2⟩ := h k a hk; exact ⟨b, o, hp, cell_below hb h1, cell_below hb h2⟩⟩
theorem RdL.at {w : World} {p : Option Addr} {n cp : Nat} {L : List Sp} (h : RdL w (.slice p n cp) L) {k : Nat} {a : Sp} (hk : L[k]? = some a) : ∃ b o, p = some ⟨b, o, none⟩ ∧ w.cell? ⟨b, o + k * 2, none⟩ = some (.int .i64 a.1) ∧ w.cell? ⟨b, o + k * 2 + 1, none⟩ = some (.int .i64 a.2) := by
  obtain ⟨p', cp', e, h⟩ := h
  simp only [Value.slice.injEq] at e
  obtain ⟨rfl, rfl, rfl⟩ := e
  exact h k a hk
/-- A cover, to be read. -/
def CvR (w : World) (b : Nat) (L : List Sp) : Prop := ∃ v, w.cell? ⟨b, 0, none⟩ = some v ∧ RdL w v L
theorem CvR.below {w w' : World} {b : Nat} {L : List Sp} (h : CvR w b L) (hb : Below w.heap.size w w') : CvR w' b L := by
  obtain ⟨v, h1, h2⟩ := h
  exact ⟨v, cell_below hb h1, h2.below hb⟩
theorem get_lt {L : List Sp} {k : Nat} (h : k < L.length) : ∃ a, L[k]? = some a := ⟨_, List.getElem?_eq_getElem h⟩
set_option maxHeartbeats 2000000 in
theorem c_search (w : World) (v : Value) (L : List Sp) (hv : RdL w v L) (hw : Wf L) (hn : L.length ≤ 8796093022206) (x : Int) :
    Calls Try.prog 52 #[v, .int .i64 x, .func (.func 53) #[] #[]] w fun e w' => e = .returned (.tuple #[.int .i64 (frm L x), .bool false]) ∧ Below w.heap.size w w' := by
  have HV := Lib.hid hv
  obtain ⟨p, cp, rfl, _⟩ := hv
  have HW := Lib.hid hw
  have HN := Lib.hid hn
  obtain ⟨n, hnn⟩ : ∃ n, L.length = n := ⟨_, rfl⟩
  rw [hnn] at HV ⊢
  have HNN := Lib.hid hnn
  clear hn hw hnn
  go_enter Try.func52, Try.ntmps52
  go_wp2
  go_loopw [9, 10] (fun y z wr => ∃ i j : Nat, y = .int .i64 i ∧ z = .int .i64 j ∧ i ≤ j ∧ j ≤ n ∧ Below w.heap.size w wr ∧ (∀ k a, k < i → L[k]? = some a → a.2 ≤ x) ∧ (∀ k a, j ≤ k → L[k]? = some a → x < a.2)) (fun y z _ => (intOf z).toNat - (intOf y).toNat)
  case atStart => exact ⟨0, n, rfl, rfl, Nat.zero_le _, Nat.le_refl _, Below.refl _ _, fun k a h => by omega, fun k a h1 h2 => by have := (List.getElem?_eq_some_iff.1 h2).1; rw [HNN.out] at this; omega⟩
  case round =>
    obtain ⟨i, j, rfl, rfl, hij, hj, hB, hlo, hhi⟩ := hrel
    have HB := Lib.hid hB
    have HLH := Lib.hid (And.intro hlo (And.intro hhi (And.intro hij hj)))
    clear hB hlo hhi hij hj
    by_cases hlt : i < j
    · have b1 : (i : Int) < (j : Int) := by omega
      obtain ⟨h, hh⟩ : ∃ h, h = (i + j) / 2 := ⟨_, rfl⟩
      have hh1 : i ≤ h ∧ h < j ∧ 2 * h ≤ i + j ∧ i + j ≤ 2 * h + 1 := by omega
      have bd : i + j ≤ 17592186044416 := by have := HLH.out.2.2; have := HN.out; have := HNN.out; omega
      have w1 : IntKind.i64.wrap ((i : Int) + (j : Int)) = (i : Int) + (j : Int) := IntWalk.i64_in _ (by omega)
      have w2 : IntKind.u64.wrap ((i : Int) + (j : Int)) = (i : Int) + (j : Int) := by simp [IntKind.wrap, IntKind.bits, IntKind.signed]; omega
      have w3 : ((i : Int) + (j : Int)) / 2 = (h : Int) := by omega
      have w4 : IntKind.u64.wrap (h : Int) = (h : Int) := by simp [IntKind.wrap, IntKind.bits, IntKind.signed]; omega
      have w5 : IntKind.i64.wrap (h : Int) = (h : Int) := IntWalk.i64_in _ (by omega)
      have w6 : IntKind.i64.wrap ((h : Int) + 1) = (h : Int) + 1 := IntWalk.i64_in _ (by omega)
      have HH := Lib.hid hh1
      have hhn : h < n := by have := HLH.out.2.2.2; omega
      have b2 : (h : Int) < (n : Int) := by omega
      obtain ⟨a, ha⟩ := get_lt (L := L) (k := h) (by rw [HNN.out]; exact hhn)
      have HA := Lib.hid ha
      clear hh hh1 bd
      obtain ⟨b, o, rfl, c1, c2⟩ := (HV.out.below HB.out).at ha
      obtain ⟨a1, a2⟩ := a
      clear ha
      by_cases hc : a2 ≤ x
      · have hcl : ∀ w, Calls Try.prog 53 #[.agg #[.int .i64 a1, .int .i64 a2], .int .i64 x] w fun e w' => e = .returned (.int .i64 (-1)) ∧ Below w.heap.size w w' := fun w => by have := c_clos a1 a2 x w; rw [if_pos hc] at this; exact this
        have HCL := Lib.hid hcl; have HC := Lib.hid hc; clear hcl hc
        go_wp2_with (go_at_call 53; (with_reducible refine (HCL.out _).mono ?_); rintro e w7 ⟨rfl, hb⟩; have HB7 := Lib.hid (below_call HB.out hb); clear hb)
        go_roundw
        case rel =>
          refine ⟨h + 1, j, by go_num, rfl, by have := HH.out; omega, HLH.out.2.2.2, HB7.out, fun k d hk hd => ?_, HLH.out.2.1⟩
          by_cases e : k = h
          · subst e
            have := HA.out
            rw [hd] at this; injection this with this; rw [this]; exact HC.out
          · have h1 := HW.out.lt hd HA.out (by omega)
            have h2 := HW.out.get HA.out
            have := HC.out
            simp at h1 h2
            omega
        case measure => have := HH.out; simp [intOf]; omega
      · have hcl : ∀ w, Calls Try.prog 53 #[.agg #[.int .i64 a1, .int .i64 a2], .int .i64 x] w fun e w' => e = .returned (.int .i64 1) ∧ Below w.heap.size w w' := fun w => by have := c_clos a1 a2 x w; rw [if_neg hc] at this; exact this
        have HCL := Lib.hid hcl; have HC := Lib.hid hc; clear hcl hc
        go_wp2_with (go_at_call 53; (with_reducible refine (HCL.out _).mono ?_); rintro e w7 ⟨rfl, hb⟩; have HB7 := Lib.hid (below_call HB.out hb); clear hb)
        go_roundw
        case rel =>
          refine ⟨i, h, rfl, rfl, by have := HH.out; omega, by have := HH.out; have := HLH.out.2.2.2; omega, HB7.out, HLH.out.1, fun k d hk hd => ?_⟩
          by_cases e : h = k
          · subst e
            have := HA.out
            rw [hd] at this; injection this with this; rw [this]; have := HC.out; omega
          · have h1 := HW.out.lt HA.out hd (by omega)
            have h2 := HW.out.get hd
            have := HC.out
            simp at h1 h2
            omega
        case measure => have := HH.out; simp [intOf]; omega
    · have hie : i = frm L x := by
        have := HLH.out.2.2
        have e : i = j := by omega
        exact frm_is (by rw [HNN.out]; omega) HLH.out.1 (fun a ha => HLH.out.2.1 i a (by omega) ha)
      have b1 : ¬ ((i : Int) < (j : Int)) := by omega
      have HIE := Lib.hid hie; clear hie
      by_cases hin : i < n
      · have b2 : (i : Int) < (n : Int) := by omega
        obtain ⟨a, ha⟩ := get_lt (L := L) (k := i) (by rw [HNN.out]; exact hin)
        obtain ⟨b, o, rfl, c1, c2⟩ := (HV.out.below HB.out).at ha
        obtain ⟨a1, a2⟩ := a
        have hcl : ∀ w, Calls Try.prog 53 #[.agg #[.int .i64 a1, .int .i64 a2], .int .i64 x] w fun e w' => e = .returned (.int .i64 1) ∧ Below w.heap.size w w' := fun w => by
          have := c_clos a1 a2 x w
          rw [if_neg (by have := frm_at (a := (a1, a2)) (by rw [← HIE.out]; exact ha); simp at this; omega)] at this; exact this
        have HCL := Lib.hid hcl; clear hcl ha
        go_wp2_with (go_at_call 53; (with_reducible refine (HCL.out _).mono ?_); rintro e w7 ⟨rfl, hb⟩; have HB7 := Lib.hid (below_call HB.out hb); clear hb)
        refine bodyPost_ret (v := .tuple #[.int .i64 i, .bool false]) (by simp [results, Try.results52, go_sem]; done) rfl ⟨by rw [HIE.out], HB7.out⟩
      · have b2 : ¬ ((i : Int) < (n : Int)) := by omega
        go_wp2
        refine bodyPost_ret (v := .tuple #[.int .i64 i, .bool false]) (by simp [results, Try.results52, go_sem]; done) rfl ⟨by rw [HIE.out], HB.out⟩
theorem c_spans (w : World) (b : Nat) (p : Option Addr) (n cp : Nat) (h : w.cell? ⟨b, 0, none⟩ = some (.slice p n cp)) : Calls Try.prog 37 #[.pointer (some ⟨b, 0, none⟩)] w fun e w' => e = .returned (.slice p n cp) ∧ w = w' := by
  go_enter Try.func37, Try.ntmps37
  go_wp2
  go_ret
  exact ⟨rfl, rfl⟩
set_option maxHeartbeats 1000000 in
theorem c_from (w : World) (b : Nat) (L : List Sp) (hv : CvR w b L) (hw : Wf L) (hn : L.length ≤ 8796093022206) (x : Int) :
    Calls Try.prog 33 #[.pointer (some ⟨b, 0, none⟩), .int .i64 x] w fun e w' => e = .returned (.int .i64 (frm L x)) ∧ Below w.heap.size w w' := by
  obtain ⟨v, hc, hr⟩ := hv
  have HS := Lib.hid (c_search w v L hr hw hn x)
  obtain ⟨p, cp, rfl, _⟩ := hr
  have HC := Lib.hid (c_spans w b p L.length cp hc)
  clear hc hw hn
  generalize frm L x = i at *
  go_enter Try.func33, Try.ntmps33
  go_wp2_with (first | (go_at_call 37; (with_reducible refine HC.out.mono ?_); rintro e w1 ⟨rfl, rfl⟩) | (go_at_call 52; (with_reducible refine HS.out.mono ?_); rintro e w2 ⟨rfl, hb⟩; have HB := Lib.hid hb; clear hb))
  go_ret
  exact ⟨rfl, HB.out⟩
end Go.Proofs.Ytnofclmnjhkhiaa
