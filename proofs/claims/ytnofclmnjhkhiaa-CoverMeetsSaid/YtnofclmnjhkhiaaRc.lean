/- The reference's Has, Gap, Next. -/
import Derived.Test.YtnofclmnjhkhiaaRb2
import Derived.WalkKit
import Derived.WalkLawsBesides
import Derived.WalkSpells
import Derived.Below
import Derived.Deep.RegionHeld3
import Derived.Deep.QuietTactic
import Derived.BigQuiet
import Derived.Deep.DeepCutAuto
import Derived.Deep.DeepMust
import Derived.KernelRfl
import Derived.Lib.Hide
import Derived.Outline
import Derived.RegionTactic
import Derived.StillTailTactics
namespace Go.Proofs.Ytnofclmnjhkhiaa
open Go.RowKit Go.Cl Go.Cv
set_option maxRecDepth 100000
set_option linter.unusedVariables false
set_option linter.unusedSimpArgs false

theorem has_hit {L : List Sp} (hw : Wf L) {k : Nat} {a : Sp} {x : Int} (ha : L[k]? = some a) (hs : hasS a x) : L[frm L x]? = some a := by
  have h1 := (List.getElem?_eq_some_iff.1 ha).1
  have : k = frm L x := frm_is (by omega) (fun j d hj hd => by have := hw.lt hd ha hj; unfold hasS at hs; omega) (fun d hd => by rw [ha] at hd; injection hd with e; rw [← e]; exact hs.2)
  rw [← this]; exact ha
theorem lo_hit {L : List Sp} (hw : Wf L) {k : Nat} {a : Sp} {x : Int} (ha : L[k]? = some a) (hs : x < a.1) (hn : ∀ (j : Nat) (d : Sp), j < k → L[j]? = some d → ¬ hasS d x ∧ d.1 ≤ x) : L[frm L x]? = some a := by
  have h1 := (List.getElem?_eq_some_iff.1 ha).1
  have h2 := hw.get ha
  have : k = frm L x := frm_is (by omega) (fun j d hj hd => by have := hn j d hj hd; unfold hasS at this; omega) (fun d hd => by rw [ha] at hd; injection hd with e; rw [← e]; omega)
  rw [← this]; exact ha
theorem no_hit {L : List Sp} {x : Int} (hn : ∀ (j : Nat) (d : Sp), L[j]? = some d → ¬ hasS d x) : hasB L x = false := by
  unfold hasB
  cases e : L[frm L x]? with
  | none => rfl
  | some a =>
    have h1 := hn _ a e
    have h2 := frm_at e
    unfold hasS at h1
    show (decide (a.1 ≤ x) && decide (x < a.2)) = false
    rw [decide_eq_false (show ¬ a.1 ≤ x by omega)]; rfl
theorem no_next {L : List Sp} {x : Int} (hn : ∀ (j : Nat) (d : Sp), L[j]? = some d → ¬ hasS d x ∧ d.1 ≤ x) : nextL L x = (0, false) := by
  unfold nextL
  cases e : L[frm L x]? with
  | none => rfl
  | some a =>
    have h1 := hn _ a e
    have h2 := frm_at e
    unfold hasS at h1
    omega
/-- What a reading loop stands on. -/
theorem CvR.open {w : World} {b : Nat} {L : List Sp} (h : CvR w b L) : ∃ p cp, w.cell? ⟨b, 0, none⟩ = some (.slice p L.length cp) ∧ RdL w (.slice p L.length cp) L := by
  obtain ⟨v, hc, hr⟩ := h
  have hr2 := hr; obtain ⟨p, cp, rfl, _⟩ := hr2
  exact ⟨p, cp, hc, hr⟩
set_option maxHeartbeats 1000000 in
theorem c_rhasC (w : World) (b : Nat) (L : List Sp) (hv : CvR w b L) (hw : Wf L) (hn : L.length ≤ 8796093022206) (x : Int) :
    Calls Try.prog 43 #[.pointer (some ⟨b, 0, none⟩), .int .i64 x] w fun e w' => e = .returned (.bool (hasB L x)) ∧ Below w.heap.size w w' := by
  obtain ⟨p, cp, hc, hr⟩ := hv.open
  obtain ⟨n, hnn⟩ : ∃ n, L.length = n := ⟨_, rfl⟩
  rw [hnn] at hc hr hn
  have HC := Lib.hid (And.intro hc (And.intro hr (And.intro hnn (And.intro hn hw))))
  clear hc hr hnn hn hw hv
  go_enter Try.func43, Try.ntmps43
  go_wp2
  go_loopw [5] (fun t wr => ∃ k : Nat, t = .int .i64 k ∧ k ≤ n ∧ Below w.heap.size w wr ∧ (∀ (j : Nat) (d : Sp), j < k → L[j]? = some d → ¬ hasS d x)) (fun t _ => n - (intOf t).toNat)
  case atStart => exact ⟨0, rfl, Nat.zero_le _, Below.refl _ _, fun j d h => by omega⟩
  case round =>
    obtain ⟨k, rfl, hk, hB, hno⟩ := hrel
    have c0 := cell_below hB HC.out.1
    have HI := Lib.hid (And.intro hk (And.intro hB hno))
    clear hk hno
    by_cases hlt : k < n
    · have b1 : (k : Int) < (n : Int) := by omega
      have w1' : IntKind.i64.wrap ((k : Int) + 1) = (k : Int) + 1 := IntWalk.i64_in _ (by have := HC.out; omega)
      obtain ⟨a, ha⟩ := get_lt (L := L) (k := k) (by rw [HC.out.2.2.1]; exact hlt)
      obtain ⟨g, o, rfl, y1, y2⟩ := (HC.out.2.1.below hB).at ha
      have HA := Lib.hid ha; clear ha hB
      obtain ⟨a1, a2⟩ := a
      by_cases hs : hasS (a1, a2) x
      · have hh : ∀ w, Calls Try.prog 62 #[.agg #[.int .i64 a1, .int .i64 a2], .int .i64 x] w fun e w' => e = .returned (.bool true) ∧ Below w.heap.size w w' := fun w => by
          have := c_rhas a1 a2 x w
          rw [decide_eq_true (show a1 ≤ x from hs.1), decide_eq_true (show x < a2 from hs.2)] at this; exact this
        have HH := Lib.hid hh
        have hit := has_hit HC.out.2.2.2.2 HA.out hs
        have hres : hasB L x = true := by unfold hasB; rw [hit]; show (decide (a1 ≤ x) && decide (x < a2)) = true; rw [decide_eq_true (show a1 ≤ x from hs.1), decide_eq_true (show x < a2 from hs.2)]; rfl
        have HRES := Lib.hid hres
        clear hh hs hit hres
        go_wp2_with (go_at_call 62; (with_reducible refine (HH.out _).mono ?_); rintro e w3 ⟨rfl, hb⟩; have HB3 := Lib.hid (below_call HI.out.2.1 hb); clear hb)
        go_ret
        exact ⟨by rw [HRES.out]; rfl, HB3.out⟩
      · have hh : ∀ w, Calls Try.prog 62 #[.agg #[.int .i64 a1, .int .i64 a2], .int .i64 x] w fun e w' => e = .returned (.bool false) ∧ Below w.heap.size w w' := fun w => by
          have := c_rhas a1 a2 x w
          rw [show (decide (a1 ≤ x) && decide (x < a2)) = false from by
            by_cases q : a1 ≤ x
            · rw [decide_eq_false (fun q2 => hs ⟨q, q2⟩), Bool.and_false]
            · rw [decide_eq_false q, Bool.false_and]] at this
          exact this
        have HH := Lib.hid hh
        have HS := Lib.hid hs
        clear hh hs
        go_wp2_with (go_at_call 62; (with_reducible refine (HH.out _).mono ?_); rintro e w3 ⟨rfl, hb⟩; have HB3 := Lib.hid (below_call HI.out.2.1 hb); clear hb)
        go_roundw
        case rel => exact ⟨k + 1, by go_num, by omega, HB3.out, fun j d hj hd => by
            by_cases e : j = k
            · subst e; have := HA.out; rw [hd] at this; injection this with this; rw [this]; exact HS.out
            · exact HI.out.2.2 j d (by omega) hd⟩
        case measure => simp [intOf]; omega
    · obtain rfl : k = n := by have := HI.out.1; omega
      have b1 : ¬ ((k : Int) < (k : Int)) := by omega
      clear hB
      have hb := no_hit (L := L) (x := x) (fun j d hd => HI.out.2.2 j d (by have := (List.getElem?_eq_some_iff.1 hd).1; have := HC.out.2.2.1; omega) hd)
      have HRES := Lib.hid hb; clear hb
      go_wp2
      go_ret
      exact ⟨by rw [HRES.out]; rfl, HI.out.2.1⟩
set_option maxHeartbeats 1000000 in
theorem c_rgap (w : World) (b : Nat) (L : List Sp) (hv : CvR w b L) (hw : Wf L) (hn : L.length ≤ 8796093022206) (x : Int) :
    Calls Try.prog 42 #[.pointer (some ⟨b, 0, none⟩), .int .i64 x] w fun e w' => e = .returned (.int .i64 (gapL L x)) ∧ Below w.heap.size w w' := by
  obtain ⟨p, cp, hc, hr⟩ := hv.open
  obtain ⟨n, hnn⟩ : ∃ n, L.length = n := ⟨_, rfl⟩
  rw [hnn] at hc hr hn
  have HC := Lib.hid (And.intro hc (And.intro hr (And.intro hnn (And.intro hn hw))))
  clear hc hr hnn hn hw hv
  go_enter Try.func42, Try.ntmps42
  go_wp2
  go_loopw [5] (fun t wr => ∃ k : Nat, t = .int .i64 k ∧ k ≤ n ∧ Below w.heap.size w wr ∧ (∀ (j : Nat) (d : Sp), j < k → L[j]? = some d → ¬ hasS d x)) (fun t _ => n - (intOf t).toNat)
  case atStart => exact ⟨0, rfl, Nat.zero_le _, Below.refl _ _, fun j d h => by omega⟩
  case round =>
    obtain ⟨k, rfl, hk, hB, hno⟩ := hrel
    have c0 := cell_below hB HC.out.1
    have HI := Lib.hid (And.intro hk (And.intro hB hno))
    clear hk hno
    by_cases hlt : k < n
    · have b1 : (k : Int) < (n : Int) := by omega
      have w1' : IntKind.i64.wrap ((k : Int) + 1) = (k : Int) + 1 := IntWalk.i64_in _ (by have := HC.out; omega)
      obtain ⟨a, ha⟩ := get_lt (L := L) (k := k) (by rw [HC.out.2.2.1]; exact hlt)
      obtain ⟨g, o, rfl, y1, y2⟩ := (HC.out.2.1.below hB).at ha
      have HA := Lib.hid ha; clear ha hB
      obtain ⟨a1, a2⟩ := a
      by_cases hs : hasS (a1, a2) x
      · have hh : ∀ w, Calls Try.prog 62 #[.agg #[.int .i64 a1, .int .i64 a2], .int .i64 x] w fun e w' => e = .returned (.bool true) ∧ Below w.heap.size w w' := fun w => by
          have := c_rhas a1 a2 x w
          rw [decide_eq_true (show a1 ≤ x from hs.1), decide_eq_true (show x < a2 from hs.2)] at this; exact this
        have HH := Lib.hid hh
        have hit := has_hit HC.out.2.2.2.2 HA.out hs
        have hres : gapL L x = a2 := by
          have e1 : hasB L x = true := by unfold hasB; rw [hit]; show (decide (a1 ≤ x) && decide (x < a2)) = true; rw [decide_eq_true (show a1 ≤ x from hs.1), decide_eq_true (show x < a2 from hs.2)]; rfl
          unfold gapL; rw [if_pos e1, hit]
        have HRES := Lib.hid hres
        have HY := Lib.hid (And.intro y1 y2)
        clear hh hs hit hres
        go_wp2_with (go_at_call 62; (with_reducible refine (HH.out _).mono ?_); rintro e w3 ⟨rfl, hb⟩; have HB3 := Lib.hid (below_call HI.out.2.1 hb); replace c0 := cell_below hb c0; replace y1 := cell_below hb HY.out.1; replace y2 := cell_below hb HY.out.2; clear hb)
        go_ret
        exact ⟨by rw [HRES.out]; rfl, HB3.out⟩
      · have hh : ∀ w, Calls Try.prog 62 #[.agg #[.int .i64 a1, .int .i64 a2], .int .i64 x] w fun e w' => e = .returned (.bool false) ∧ Below w.heap.size w w' := fun w => by
          have := c_rhas a1 a2 x w
          rw [show (decide (a1 ≤ x) && decide (x < a2)) = false from by
            by_cases q : a1 ≤ x
            · rw [decide_eq_false (fun q2 => hs ⟨q, q2⟩), Bool.and_false]
            · rw [decide_eq_false q, Bool.false_and]] at this
          exact this
        have HH := Lib.hid hh
        have HS := Lib.hid hs
        clear hh hs
        go_wp2_with (go_at_call 62; (with_reducible refine (HH.out _).mono ?_); rintro e w3 ⟨rfl, hb⟩; have HB3 := Lib.hid (below_call HI.out.2.1 hb); clear hb)
        go_roundw
        case rel => exact ⟨k + 1, by go_num, by omega, HB3.out, fun j d hj hd => by
            by_cases e : j = k
            · subst e; have := HA.out; rw [hd] at this; injection this with this; rw [this]; exact HS.out
            · exact HI.out.2.2 j d (by omega) hd⟩
        case measure => simp [intOf]; omega
    · obtain rfl : k = n := by have := HI.out.1; omega
      have b1 : ¬ ((k : Int) < (k : Int)) := by omega
      clear hB
      have hb := no_hit (L := L) (x := x) (fun j d hd => HI.out.2.2 j d (by have := (List.getElem?_eq_some_iff.1 hd).1; have := HC.out.2.2.1; omega) hd)
      have hres : gapL L x = x := (gapL_iff x).2 hb
      have HRES := Lib.hid hres
      clear hb hres
      go_wp2
      go_ret
      exact ⟨by rw [HRES.out]; rfl, HI.out.2.1⟩
set_option maxHeartbeats 1000000 in
theorem c_rnext (w : World) (b : Nat) (L : List Sp) (hv : CvR w b L) (hw : Wf L) (hn : L.length ≤ 8796093022206) (x : Int) :
    Calls Try.prog 41 #[.pointer (some ⟨b, 0, none⟩), .int .i64 x] w fun e w' => e = .returned (.tuple #[.int .i64 (nextL L x).1, .bool (nextL L x).2]) ∧ Below w.heap.size w w' := by
  obtain ⟨p, cp, hc, hr⟩ := hv.open
  obtain ⟨n, hnn⟩ : ∃ n, L.length = n := ⟨_, rfl⟩
  rw [hnn] at hc hr hn
  have HC := Lib.hid (And.intro hc (And.intro hr (And.intro hnn (And.intro hn hw))))
  clear hc hr hnn hn hw hv
  go_enter Try.func41, Try.ntmps41
  go_wp2
  go_loopw [6] (fun t wr => ∃ k : Nat, t = .int .i64 k ∧ k ≤ n ∧ Below w.heap.size w wr ∧ (∀ (j : Nat) (d : Sp), j < k → L[j]? = some d → ¬ hasS d x ∧ d.1 ≤ x)) (fun t _ => n - (intOf t).toNat)
  case atStart => exact ⟨0, rfl, Nat.zero_le _, Below.refl _ _, fun j d h => by omega⟩
  case round =>
    obtain ⟨k, rfl, hk, hB, hno⟩ := hrel
    have c0 := cell_below hB HC.out.1
    have HI := Lib.hid (And.intro hk (And.intro hB hno))
    clear hk hno
    by_cases hlt : k < n
    · have b1 : (k : Int) < (n : Int) := by omega
      have w1' : IntKind.i64.wrap ((k : Int) + 1) = (k : Int) + 1 := IntWalk.i64_in _ (by have := HC.out; omega)
      obtain ⟨a, ha⟩ := get_lt (L := L) (k := k) (by rw [HC.out.2.2.1]; exact hlt)
      obtain ⟨g, o, rfl, y1, y2⟩ := (HC.out.2.1.below hB).at ha
      have HA := Lib.hid ha; clear ha hB
      obtain ⟨a1, a2⟩ := a
      have HY := Lib.hid (And.intro y1 y2)
      by_cases hs : hasS (a1, a2) x
      · have hh : ∀ w, Calls Try.prog 62 #[.agg #[.int .i64 a1, .int .i64 a2], .int .i64 x] w fun e w' => e = .returned (.bool true) ∧ Below w.heap.size w w' := fun w => by
          have := c_rhas a1 a2 x w
          rw [decide_eq_true (show a1 ≤ x from hs.1), decide_eq_true (show x < a2 from hs.2)] at this; exact this
        have HH := Lib.hid hh
        have hit := has_hit HC.out.2.2.2.2 HA.out hs
        have hres : nextL L x = (x, true) := by unfold nextL; rw [hit]; show (max x a1, true) = _; rw [show max x a1 = x by have := hs.1; simp at this; omega]
        have HRES := Lib.hid hres
        clear hh hs hit hres
        go_wp2_with (go_at_call 62; (with_reducible refine (HH.out _).mono ?_); rintro e w3 ⟨rfl, hb⟩; have HB3 := Lib.hid (below_call HI.out.2.1 hb); clear hb)
        refine bodyPost_ret (v := .tuple #[.int .i64 x, .bool true]) (by simp [results, Try.results41, go_sem]; done) rfl ⟨by rw [HRES.out], HB3.out⟩
      · have hh : ∀ w, Calls Try.prog 62 #[.agg #[.int .i64 a1, .int .i64 a2], .int .i64 x] w fun e w' => e = .returned (.bool false) ∧ Below w.heap.size w w' := fun w => by
          have := c_rhas a1 a2 x w
          rw [show (decide (a1 ≤ x) && decide (x < a2)) = false from by
            by_cases q : a1 ≤ x
            · rw [decide_eq_false (fun q2 => hs ⟨q, q2⟩), Bool.and_false]
            · rw [decide_eq_false q, Bool.false_and]] at this
          exact this
        have HH := Lib.hid hh
        have HS := Lib.hid hs
        clear hh hs
        by_cases hl : x < a1
        · have hit := lo_hit HC.out.2.2.2.2 HA.out (show x < (a1, a2).1 from hl) HI.out.2.2
          have hres : nextL L x = (a1, true) := by unfold nextL; rw [hit]; show (max x a1, true) = _; rw [show max x a1 = a1 by omega]
          have HRES := Lib.hid hres
          clear hit hres
          go_wp2_with (go_at_call 62; (with_reducible refine (HH.out _).mono ?_); rintro e w3 ⟨rfl, hb⟩; have HB3 := Lib.hid (below_call HI.out.2.1 hb); replace c0 := cell_below hb c0; replace y1 := cell_below hb HY.out.1; replace y2 := cell_below hb HY.out.2; clear hb)
          refine bodyPost_ret (v := .tuple #[.int .i64 a1, .bool true]) (by simp [results, Try.results41, go_sem]; done) rfl ⟨by rw [HRES.out], HB3.out⟩
        · have HLL := Lib.hid hl
          go_wp2_with (go_at_call 62; (with_reducible refine (HH.out _).mono ?_); rintro e w3 ⟨rfl, hb⟩; have HB3 := Lib.hid (below_call HI.out.2.1 hb); replace c0 := cell_below hb c0; replace y1 := cell_below hb HY.out.1; replace y2 := cell_below hb HY.out.2; clear hb)
          go_roundw
          case rel => exact ⟨k + 1, by go_num, by omega, HB3.out, fun j d hj hd => by
            by_cases e : j = k
            · subst e; have := HA.out; rw [hd] at this; injection this with this; rw [this]; exact ⟨HS.out, by have := HLL.out; show a1 ≤ x; omega⟩
            · exact HI.out.2.2 j d (by omega) hd⟩
          case measure => simp [intOf]; omega
    · obtain rfl : k = n := by have := HI.out.1; omega
      have b1 : ¬ ((k : Int) < (k : Int)) := by omega
      clear hB
      have hres := no_next (L := L) (x := x) (fun j d hd => HI.out.2.2 j d (by have := (List.getElem?_eq_some_iff.1 hd).1; have := HC.out.2.2.1; omega) hd)
      have HRES := Lib.hid hres
      clear hres
      go_wp2
      refine bodyPost_ret (v := .tuple #[.int .i64 0, .bool false]) (by simp [results, Try.results41, go_sem]; done) rfl ⟨by rw [HRES.out], HI.out.2.1⟩
end Go.Proofs.Ytnofclmnjhkhiaa
