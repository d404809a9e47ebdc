/- The reference's Meets, Holds. -/
import Derived.Test.YtnofclmnjhkhiaaRc
import Derived.Test.YtnofclmnjhkhiaaRb3
import Derived.WalkKit
import Derived.WalkLawsBesides
import Derived.WalkSpells
import Derived.Below
import Derived.Deep.RegionHeld3
import Derived.Deep.QuietTactic
import Derived.BigQuiet
import Derived.Deep.DeepCutAuto
import Derived.Deep.DeepMust
import Derived.KernelRfl
import Derived.Lib.Hide
import Derived.Outline
import Derived.RegionTactic
import Derived.StillTailTactics
namespace Go.Proofs.Ytnofclmnjhkhiaa
open Go.RowKit Go.Cl Go.Cv
set_option maxRecDepth 100000
set_option linter.unusedVariables false
set_option linter.unusedSimpArgs false

theorem meets_hit {L : List Sp} (hw : Wf L) {k : Nat} {a : Sp} {lo hi : Int} (ha : L[k]? = some a) (h : max lo a.1 < min hi a.2) : meetsL L (lo, hi) = true := by
  have h1 := (List.getElem?_eq_some_iff.1 ha).1
  have hk : frm L lo ≤ k := by
    rcases Nat.lt_or_ge k (frm L lo) with c | c
    · have := frm_lo c ha; omega
    · exact c
  obtain ⟨d, hd⟩ := get_lt (L := L) (k := frm L lo) (by omega)
  have h2 := frm_at hd
  have h3 := hw.get hd
  unfold meetsL
  show (match L[frm L lo]? with | some a => decide (lo < hi) && decide (max a.1 lo < min a.2 hi) | none => false) = true
  rw [hd]
  show (decide (lo < hi) && decide (max d.1 lo < min d.2 hi)) = true
  have h4 : d.1 < hi := by
    by_cases e : frm L lo = k
    · rw [e, ha] at hd; injection hd with e2; rw [← e2]; omega
    · have := hw.lt hd ha (by omega); omega
  rw [decide_eq_true (show lo < hi by omega), decide_eq_true (show max d.1 lo < min d.2 hi by omega)]; rfl
theorem meets_none {L : List Sp} {lo hi : Int} (hn : ∀ (j : Nat) (d : Sp), L[j]? = some d → min hi d.2 ≤ max lo d.1) : meetsL L (lo, hi) = false := by
  unfold meetsL
  show (match L[frm L lo]? with | some a => decide (lo < hi) && decide (max a.1 lo < min a.2 hi) | none => false) = false
  cases e : L[frm L lo]? with
  | none => rfl
  | some a =>
    have := hn _ a e
    show (decide (lo < hi) && decide (max a.1 lo < min a.2 hi)) = false
    rw [decide_eq_false (show ¬ max a.1 lo < min a.2 hi by omega), Bool.and_false]
theorem holds_hit {L : List Sp} (hw : Wf L) {k : Nat} {a : Sp} {lo hi : Int} (hlh : lo < hi) (ha : L[k]? = some a) (h : a.1 ≤ lo ∧ hi ≤ a.2) : holdsL L (lo, hi) = true := by
  have hit := has_hit hw ha (x := lo) ⟨h.1, by omega⟩
  unfold holdsL
  show (if hi ≤ lo then true else match L[frm L lo]? with | some a => decide (a.1 ≤ lo) && decide (hi ≤ a.2) | none => false) = true
  rw [if_neg (by omega), hit]
  show (decide (a.1 ≤ lo) && decide (hi ≤ a.2)) = true
  rw [decide_eq_true h.1, decide_eq_true h.2]; rfl
theorem holds_none {L : List Sp} {lo hi : Int} (hlh : lo < hi) (hn : ∀ (j : Nat) (d : Sp), L[j]? = some d → ¬ (d.1 ≤ lo ∧ hi ≤ d.2)) : holdsL L (lo, hi) = false := by
  unfold holdsL
  show (if hi ≤ lo then true else match L[frm L lo]? with | some a => decide (a.1 ≤ lo) && decide (hi ≤ a.2) | none => false) = false
  rw [if_neg (by omega)]
  cases e : L[frm L lo]? with
  | none => rfl
  | some a =>
    have := hn _ a e
    show (decide (a.1 ≤ lo) && decide (hi ≤ a.2)) = false
    by_cases q : a.1 ≤ lo
    · rw [decide_eq_false (show ¬ hi ≤ a.2 from fun q2 => this ⟨q, q2⟩), Bool.and_false]
    · rw [decide_eq_false q, Bool.false_and]
theorem holds_empty {L : List Sp} {lo hi : Int} (h : hi ≤ lo) : holdsL L (lo, hi) = true := by
  unfold holdsL
  exact if_pos h
set_option maxHeartbeats 1000000 in
theorem c_rmeetsC (w : World) (b : Nat) (L : List Sp) (hv : CvR w b L) (hw : Wf L) (hn : L.length ≤ 8796093022206) (lo hi : Int) :
    Calls Try.prog 45 #[.pointer (some ⟨b, 0, none⟩), .agg #[.int .i64 lo, .int .i64 hi]] w fun e w' => e = .returned (.bool (meetsL L (lo, hi))) ∧ Below w.heap.size w w' := by
  obtain ⟨p, cp, hc, hr⟩ := hv.open
  obtain ⟨n, hnn⟩ : ∃ n, L.length = n := ⟨_, rfl⟩
  rw [hnn] at hc hr hn
  have HC := Lib.hid (And.intro hc (And.intro hr (And.intro hnn (And.intro hn hw))))
  clear hc hr hnn hn hw hv
  go_enter Try.func45, Try.ntmps45
  go_upto_region 1 with fail
  refine Ph.at_world ?_; intro W1 hW
  obtain ⟨x3, hx3⟩ : ∃ x3, w.heap.size = x3 := ⟨_, rfl⟩
  have k3 : hp W1 x3 = some (.cells #[.int .i64 lo, .int .i64 hi] 53 (0, 0)) := by rw [hW, ← hx3]; simp [hpA]
  have hB1 : Below w.heap.size w W1 := by rw [hW]; exact below_alloc (Below.refl _ _) _
  rw [hx3]
  clear hW hx3
  go_wp2
  go_loopw [5] (fun t wr => ∃ k : Nat, t = .int .i64 k ∧ k ≤ n ∧ Below w.heap.size w wr ∧ (∀ (j : Nat) (d : Sp), j < k → L[j]? = some d → min hi d.2 ≤ max lo d.1) ∧ hp wr x3 = some (.cells #[.int .i64 lo, .int .i64 hi] 53 (0, 0))) (fun t _ => n - (intOf t).toNat)
  case atStart => exact ⟨0, rfl, Nat.zero_le _, hB1, fun j d h => by omega, k3⟩
  case round =>
    clear hB1 k3
    obtain ⟨k, rfl, hk, hB, hno, kx⟩ := hrel
    have c0 := cell_below hB HC.out.1
    have HI := Lib.hid (And.intro hk (And.intro hB (And.intro hno kx)))
    have HC0 := Lib.hid c0
    clear hk hno kx
    by_cases hlt : k < n
    · have b1 : (k : Int) < (n : Int) := by omega
      have w1' : IntKind.i64.wrap ((k : Int) + 1) = (k : Int) + 1 := IntWalk.i64_in _ (by have := HC.out; omega)
      obtain ⟨a, ha⟩ := get_lt (L := L) (k := k) (by rw [HC.out.2.2.1]; exact hlt)
      obtain ⟨g, o, rfl, y1, y2⟩ := (HC.out.2.1.below hB).at ha
      have HY := Lib.hid (And.intro y1 y2)
      have HA := Lib.hid ha; clear ha hB y1 y2
      obtain ⟨a1, a2⟩ := a
      by_cases hs : max lo a1 < min hi a2
      · have hh : ∀ w, Calls Try.prog 64 #[.agg #[.int .i64 lo, .int .i64 hi], .agg #[.int .i64 a1, .int .i64 a2]] w fun e w' => e = .returned (.bool true) ∧ Below w.heap.size w w' := fun w => by
          have := c_rmeets lo hi a1 a2 w
          rw [decide_eq_true hs] at this; exact this
        have HH := Lib.hid hh
        have HRES := Lib.hid (meets_hit HC.out.2.2.2.2 HA.out (show max lo (a1, a2).1 < min hi (a1, a2).2 from hs))
        clear hh hs
        go_wp2
        refine Ph.region_at (by kernel_rfl) ?_
        refine Ph.at_quiet 9 (by kernel_rfl) ?_
        simp only [List.take_succ_cons, List.take_zero, List.drop_succ_cons, List.drop_zero]
        repeat ((first | (apply Ph.wpPh_g; (focus (intro wx hS0; have hz := below_call (below_drew (Below.refl wr.heap.size wr)) hS0; have c0 := cell_below hz HC0.out; have cx := hp_cell (hp_below hz HI.out.2.2.2); have y1 := cell_below hz HY.out.1; have y2 := cell_below hz HY.out.2; go_simp; first | exact rfl | exact ⟨rfl, Below.refl _ _⟩ | ((with_reducible refine (HH.out _).mono ?_); rintro e w2 ⟨rfl, hb⟩; exact ⟨rfl, hb⟩))))); simp only [Act.put, List.setIfInBounds_toArray, List.set_cons_zero, List.set_cons_succ])
        refine Ph.wpPh_nil ?_; intro w6 hS
        refine Ph.at_end (by simp) ?_
        go_wp2
        go_ret
        exact ⟨by rw [HRES.out]; rfl, below_call HI.out.2.1 (below_call (below_drew (Below.refl _ _)) hS)⟩
      · have hh : ∀ w, Calls Try.prog 64 #[.agg #[.int .i64 lo, .int .i64 hi], .agg #[.int .i64 a1, .int .i64 a2]] w fun e w' => e = .returned (.bool false) ∧ Below w.heap.size w w' := fun w => by
          have := c_rmeets lo hi a1 a2 w
          rw [decide_eq_false hs] at this; exact this
        have HH := Lib.hid hh
        have HS := Lib.hid (And.intro hs trivial)
        clear hh hs
        go_wp2
        refine Ph.region_at (by kernel_rfl) ?_
        refine Ph.at_quiet 9 (by kernel_rfl) ?_
        simp only [List.take_succ_cons, List.take_zero, List.drop_succ_cons, List.drop_zero]
        repeat ((first | (apply Ph.wpPh_g; (focus (intro wx hS0; have hz := below_call (below_drew (Below.refl wr.heap.size wr)) hS0; have c0 := cell_below hz HC0.out; have cx := hp_cell (hp_below hz HI.out.2.2.2); have y1 := cell_below hz HY.out.1; have y2 := cell_below hz HY.out.2; go_simp; first | exact rfl | exact ⟨rfl, Below.refl _ _⟩ | ((with_reducible refine (HH.out _).mono ?_); rintro e w2 ⟨rfl, hb⟩; exact ⟨rfl, hb⟩))))); simp only [Act.put, List.setIfInBounds_toArray, List.set_cons_zero, List.set_cons_succ])
        refine Ph.wpPh_nil ?_; intro w6 hS
        refine Ph.at_end (by simp) ?_
        go_wp2
        go_roundw
        case rel => exact ⟨k + 1, by go_num, by omega, below_call HI.out.2.1 (below_call (below_drew (Below.refl _ _)) hS), fun j d hj hd => by
            by_cases e : j = k
            · subst e; have := HA.out; rw [hd] at this; injection this with this; rw [this]; exact (by have := HS.out.1; show min hi a2 ≤ max lo a1; omega)
            · exact HI.out.2.2.1 j d (by omega) hd, hp_below (below_call (below_drew (Below.refl _ _)) hS) HI.out.2.2.2⟩
        case measure => simp [intOf]; omega
    · obtain rfl : k = n := by have := HI.out.1; omega
      have b1 : ¬ ((k : Int) < (k : Int)) := by omega
      clear hB
      have HRES := Lib.hid (meets_none (L := L) (lo := lo) (hi := hi) (fun j d hd => HI.out.2.2.1 j d (by have := (List.getElem?_eq_some_iff.1 hd).1; have := HC.out.2.2.1; omega) hd))
      go_wp2
      go_ret
      exact ⟨by rw [HRES.out]; rfl, HI.out.2.1⟩
set_option maxHeartbeats 1000000 in
theorem rholds_some (w : World) (b : Nat) (L : List Sp) (hv : CvR w b L) (hw : Wf L) (hn : L.length ≤ 8796093022206) (lo hi : Int) (hlh : lo < hi) :
    Calls Try.prog 44 #[.pointer (some ⟨b, 0, none⟩), .agg #[.int .i64 lo, .int .i64 hi]] w fun e w' => e = .returned (.bool (holdsL L (lo, hi))) ∧ Below w.heap.size w w' := by
  have HLH := Lib.hid (And.intro hlh trivial); clear hlh
  obtain ⟨p, cp, hc, hr⟩ := hv.open
  obtain ⟨n, hnn⟩ : ∃ n, L.length = n := ⟨_, rfl⟩
  rw [hnn] at hc hr hn
  have HC := Lib.hid (And.intro hc (And.intro hr (And.intro hnn (And.intro hn hw))))
  clear hc hr hnn hn hw hv
  go_enter Try.func44, Try.ntmps44
  go_upto_region 1 with fail
  refine Ph.at_world ?_; intro W1 hW
  obtain ⟨x3, hx3⟩ : ∃ x3, w.heap.size = x3 := ⟨_, rfl⟩
  have k3 : hp W1 x3 = some (.cells #[.int .i64 lo, .int .i64 hi] 53 (0, 0)) := by rw [hW, ← hx3]; simp [hpA]
  have hB1 : Below w.heap.size w W1 := by rw [hW]; exact below_alloc (Below.refl _ _) _
  rw [hx3]
  clear hW hx3
  go_wp2
  go_loopw [5] (fun t wr => ∃ k : Nat, t = .int .i64 k ∧ k ≤ n ∧ Below w.heap.size w wr ∧ (∀ (j : Nat) (d : Sp), j < k → L[j]? = some d → ¬ (d.1 ≤ lo ∧ hi ≤ d.2)) ∧ hp wr x3 = some (.cells #[.int .i64 lo, .int .i64 hi] 53 (0, 0))) (fun t _ => n - (intOf t).toNat)
  case atStart => exact ⟨0, rfl, Nat.zero_le _, hB1, fun j d h => by omega, k3⟩
  case round =>
    clear hB1 k3
    obtain ⟨k, rfl, hk, hB, hno, kx⟩ := hrel
    have c0 := cell_below hB HC.out.1
    have HI := Lib.hid (And.intro hk (And.intro hB (And.intro hno kx)))
    have HC0 := Lib.hid c0
    clear hk hno kx
    by_cases hlt : k < n
    · have b1 : (k : Int) < (n : Int) := by omega
      have w1' : IntKind.i64.wrap ((k : Int) + 1) = (k : Int) + 1 := IntWalk.i64_in _ (by have := HC.out; omega)
      obtain ⟨a, ha⟩ := get_lt (L := L) (k := k) (by rw [HC.out.2.2.1]; exact hlt)
      obtain ⟨g, o, rfl, y1, y2⟩ := (HC.out.2.1.below hB).at ha
      have HY := Lib.hid (And.intro y1 y2)
      have HA := Lib.hid ha; clear ha hB y1 y2
      obtain ⟨a1, a2⟩ := a
      have hwi := c_rwithin lo hi a1 a2 (by have := HLH.out.1; omega)
      by_cases hs : a1 ≤ lo ∧ hi ≤ a2
      · have hh : ∀ w, Calls Try.prog 63 #[.agg #[.int .i64 lo, .int .i64 hi], .agg #[.int .i64 a1, .int .i64 a2]] w fun e w' => e = .returned (.bool true) ∧ Below w.heap.size w w' := fun w => by
          have := hwi w
          rw [decide_eq_true hs.1, decide_eq_true hs.2] at this; exact this
        have HH := Lib.hid hh
        have HRES := Lib.hid (holds_hit HC.out.2.2.2.2 (by have := HLH.out.1; omega) HA.out (show (a1, a2).1 ≤ lo ∧ hi ≤ (a1, a2).2 from hs))
        clear hh hs hwi
        go_wp2
        refine Ph.region_at (by kernel_rfl) ?_
        refine Ph.at_quiet 9 (by kernel_rfl) ?_
        simp only [List.take_succ_cons, List.take_zero, List.drop_succ_cons, List.drop_zero]
        repeat ((first | (apply Ph.wpPh_g; (focus (intro wx hS0; have hz := below_call (below_drew (Below.refl wr.heap.size wr)) hS0; have c0 := cell_below hz HC0.out; have cx := hp_cell (hp_below hz HI.out.2.2.2); have y1 := cell_below hz HY.out.1; have y2 := cell_below hz HY.out.2; go_simp; first | exact rfl | exact ⟨rfl, Below.refl _ _⟩ | ((with_reducible refine (HH.out _).mono ?_); rintro e w2 ⟨rfl, hb⟩; exact ⟨rfl, hb⟩))))); simp only [Act.put, List.setIfInBounds_toArray, List.set_cons_zero, List.set_cons_succ])
        refine Ph.wpPh_nil ?_; intro w6 hS
        refine Ph.at_end (by simp) ?_
        go_wp2
        go_ret
        exact ⟨by rw [HRES.out]; rfl, below_call HI.out.2.1 (below_call (below_drew (Below.refl _ _)) hS)⟩
      · have hh : ∀ w, Calls Try.prog 63 #[.agg #[.int .i64 lo, .int .i64 hi], .agg #[.int .i64 a1, .int .i64 a2]] w fun e w' => e = .returned (.bool false) ∧ Below w.heap.size w w' := fun w => by
          have := hwi w
          rw [show (decide (a1 ≤ lo) && decide (hi ≤ a2)) = false from by
            by_cases q : a1 ≤ lo
            · rw [decide_eq_false (fun q2 => hs ⟨q, q2⟩), Bool.and_false]
            · rw [decide_eq_false q, Bool.false_and]] at this
          exact this
        have HH := Lib.hid hh
        have hs2 : a1 ≤ lo → hi ≤ a2 → False := fun q1 q2 => hs ⟨q1, q2⟩
        have HS := Lib.hid hs2
        clear hh hs hs2 hwi
        go_wp2
        refine Ph.region_at (by kernel_rfl) ?_
        refine Ph.at_quiet 9 (by kernel_rfl) ?_
        simp only [List.take_succ_cons, List.take_zero, List.drop_succ_cons, List.drop_zero]
        repeat ((first | (apply Ph.wpPh_g; (focus (intro wx hS0; have hz := below_call (below_drew (Below.refl wr.heap.size wr)) hS0; have c0 := cell_below hz HC0.out; have cx := hp_cell (hp_below hz HI.out.2.2.2); have y1 := cell_below hz HY.out.1; have y2 := cell_below hz HY.out.2; go_simp; first | exact rfl | exact ⟨rfl, Below.refl _ _⟩ | ((with_reducible refine (HH.out _).mono ?_); rintro e w2 ⟨rfl, hb⟩; exact ⟨rfl, hb⟩))))); simp only [Act.put, List.setIfInBounds_toArray, List.set_cons_zero, List.set_cons_succ])
        refine Ph.wpPh_nil ?_; intro w6 hS
        refine Ph.at_end (by simp) ?_
        go_wp2
        go_roundw
        case rel => exact ⟨k + 1, by go_num, by omega, below_call HI.out.2.1 (below_call (below_drew (Below.refl _ _)) hS), fun j d hj hd => by
            by_cases e : j = k
            · subst e; have := HA.out; rw [hd] at this; injection this with this; rw [this]; exact (fun q => by have := HS.out; have q1 : a1 ≤ lo := q.1; have q2 : hi ≤ a2 := q.2; first | exact this q1 q2 | (simp at this; omega) | omega)
            · exact HI.out.2.2.1 j d (by omega) hd, hp_below (below_call (below_drew (Below.refl _ _)) hS) HI.out.2.2.2⟩
        case measure => simp [intOf]; omega
    · obtain rfl : k = n := by have := HI.out.1; omega
      have b1 : ¬ ((k : Int) < (k : Int)) := by omega
      clear hB
      have HRES := Lib.hid (holds_none (L := L) (lo := lo) (hi := hi) (by have := HLH.out.1; omega) (fun j d hd => HI.out.2.2.1 j d (by have := (List.getElem?_eq_some_iff.1 hd).1; have := HC.out.2.2.1; omega) hd))
      have hem : ∀ w, Calls Try.prog 59 #[.agg #[.int .i64 lo, .int .i64 hi]] w fun e w' => e = .returned (.bool false) ∧ Below w.heap.size w w' := fun w => by have := c_rempty lo hi w; rw [decide_eq_false (by have := HLH.out.1; omega)] at this; exact this
      have HEM := Lib.hid hem; clear hem
      have cx := hp_cell HI.out.2.2.2
      go_wp2_with (go_at_call 59; (with_reducible refine (HEM.out _).mono ?_); rintro e w3 ⟨rfl, hb⟩; have HB3 := Lib.hid (below_call HI.out.2.1 hb); clear hb)
      go_ret
      exact ⟨by rw [HRES.out]; rfl, HB3.out⟩
set_option maxHeartbeats 1000000 in
theorem rholds_none (w : World) (b : Nat) (L : List Sp) (hv : CvR w b L) (hw : Wf L) (hn : L.length ≤ 8796093022206) (lo hi : Int) (hlh : hi ≤ lo) :
    Calls Try.prog 44 #[.pointer (some ⟨b, 0, none⟩), .agg #[.int .i64 lo, .int .i64 hi]] w fun e w' => e = .returned (.bool (holdsL L (lo, hi))) ∧ Below w.heap.size w w' := by
  have HLH := Lib.hid (And.intro hlh trivial); clear hlh
  have HRES := Lib.hid (holds_empty (L := L) (lo := lo) (hi := hi) (by have := HLH.out.1; omega))
  obtain ⟨p, cp, hc, hr⟩ := hv.open
  obtain ⟨n, hnn⟩ : ∃ n, L.length = n := ⟨_, rfl⟩
  rw [hnn] at hc hr hn
  have HC := Lib.hid (And.intro hc (And.intro hr (And.intro hnn (And.intro hn hw))))
  clear hc hr hnn hn hw hv
  go_enter Try.func44, Try.ntmps44
  go_upto_region 1 with fail
  refine Ph.at_world ?_; intro W1 hW
  obtain ⟨x3, hx3⟩ : ∃ x3, w.heap.size = x3 := ⟨_, rfl⟩
  have k3 : hp W1 x3 = some (.cells #[.int .i64 lo, .int .i64 hi] 53 (0, 0)) := by rw [hW, ← hx3]; simp [hpA]
  have hB1 : Below w.heap.size w W1 := by rw [hW]; exact below_alloc (Below.refl _ _) _
  rw [hx3]
  clear hW hx3
  go_wp2
  go_loopw [5] (fun t wr => ∃ k : Nat, t = .int .i64 k ∧ k ≤ n ∧ Below w.heap.size w wr ∧ (∀ (j : Nat) (d : Sp), j < k → L[j]? = some d → True) ∧ hp wr x3 = some (.cells #[.int .i64 lo, .int .i64 hi] 53 (0, 0))) (fun t _ => n - (intOf t).toNat)
  case atStart => exact ⟨0, rfl, Nat.zero_le _, hB1, fun j d h => by omega, k3⟩
  case round =>
    clear hB1 k3
    obtain ⟨k, rfl, hk, hB, hno, kx⟩ := hrel
    have c0 := cell_below hB HC.out.1
    have HI := Lib.hid (And.intro hk (And.intro hB (And.intro hno kx)))
    have HC0 := Lib.hid c0
    clear hk hno kx
    by_cases hlt : k < n
    · have b1 : (k : Int) < (n : Int) := by omega
      have w1' : IntKind.i64.wrap ((k : Int) + 1) = (k : Int) + 1 := IntWalk.i64_in _ (by have := HC.out; omega)
      obtain ⟨a, ha⟩ := get_lt (L := L) (k := k) (by rw [HC.out.2.2.1]; exact hlt)
      obtain ⟨g, o, rfl, y1, y2⟩ := (HC.out.2.1.below hB).at ha
      have HY := Lib.hid (And.intro y1 y2)
      have HA := Lib.hid ha; clear ha hB y1 y2
      obtain ⟨a1, a2⟩ := a
      have HH := Lib.hid (fun w => c_rwithin0 lo hi a1 a2 (by have := HLH.out.1; omega) w)
      go_wp2
      refine Ph.region_at (by kernel_rfl) ?_
      refine Ph.at_quiet 9 (by kernel_rfl) ?_
      simp only [List.take_succ_cons, List.take_zero, List.drop_succ_cons, List.drop_zero]
      repeat ((first | (apply Ph.wpPh_g; (focus (intro wx hS0; have hz := below_call (below_drew (Below.refl wr.heap.size wr)) hS0; have c0 := cell_below hz HC0.out; have cx := hp_cell (hp_below hz HI.out.2.2.2); have y1 := cell_below hz HY.out.1; have y2 := cell_below hz HY.out.2; go_simp; first | exact rfl | exact ⟨rfl, Below.refl _ _⟩ | ((with_reducible refine (HH.out _).mono ?_); rintro e w2 ⟨rfl, hb⟩; exact ⟨rfl, hb⟩))))); simp only [Act.put, List.setIfInBounds_toArray, List.set_cons_zero, List.set_cons_succ])
      refine Ph.wpPh_nil ?_; intro w6 hS
      refine Ph.at_end (by simp) ?_
      go_wp2
      go_ret
      exact ⟨by rw [HRES.out]; rfl, below_call HI.out.2.1 (below_call (below_drew (Below.refl _ _)) hS)⟩
    · obtain rfl : k = n := by have := HI.out.1; omega
      have b1 : ¬ ((k : Int) < (k : Int)) := by omega
      clear hB
      have hem : ∀ w, Calls Try.prog 59 #[.agg #[.int .i64 lo, .int .i64 hi]] w fun e w' => e = .returned (.bool true) ∧ Below w.heap.size w w' := fun w => by have := c_rempty lo hi w; rw [decide_eq_true (by have := HLH.out.1; omega)] at this; exact this
      have HEM := Lib.hid hem; clear hem
      have cx := hp_cell HI.out.2.2.2
      go_wp2_with (go_at_call 59; (with_reducible refine (HEM.out _).mono ?_); rintro e w3 ⟨rfl, hb⟩; have HB3 := Lib.hid (below_call HI.out.2.1 hb); clear hb)
      go_ret
      exact ⟨by rw [HRES.out]; rfl, HB3.out⟩
theorem c_rholds (w : World) (b : Nat) (L : List Sp) (hv : CvR w b L) (hw : Wf L) (hn : L.length ≤ 8796093022206) (lo hi : Int) :
    Calls Try.prog 44 #[.pointer (some ⟨b, 0, none⟩), .agg #[.int .i64 lo, .int .i64 hi]] w fun e w' => e = .returned (.bool (holdsL L (lo, hi))) ∧ Below w.heap.size w w' := by
  by_cases h : lo < hi
  · exact rholds_some w b L hv hw hn lo hi h
  · exact rholds_none w b L hv hw hn lo hi (by omega)
end Go.Proofs.Ytnofclmnjhkhiaa
