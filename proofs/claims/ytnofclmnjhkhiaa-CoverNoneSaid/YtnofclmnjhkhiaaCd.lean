/- Cut and New. -/
import Derived.Test.YtnofclmnjhkhiaaCa3
import Derived.Test.YtnofclmnjhkhiaaCc2
import Derived.WalkKit
import Derived.WalkLawsBesides
import Derived.WalkSpells
import Derived.Below
import Derived.Deep.RegionHeld3
import Derived.Deep.QuietTactic
import Derived.BigQuiet
import Derived.Deep.DeepCutAuto
import Derived.Deep.DeepMust
import Derived.KernelRfl
import Derived.Lib.Hide
import Derived.Outline
import Derived.RegionTactic
import Derived.StillTailTactics
namespace Go.Proofs.Ytnofclmnjhkhiaa
open Go.RowKit Go.Cl Go.Cv
set_option maxRecDepth 100000
set_option linter.unusedVariables false
set_option linter.unusedSimpArgs false

def cutC (L : List Sp) (s : Sp) : List Sp := if s.2 ≤ s.1 then L else cutL s L
theorem cutC_law {L : List Sp} (hw : Wf L) (s : Sp) : Wf (cutC L s) ∧ (∀ x, inL (cutC L s) x ↔ inL L x ∧ ¬ hasS s x) ∧ (cutC L s).length ≤ L.length + 1 := by
  unfold cutC
  by_cases h : s.2 ≤ s.1
  · rw [if_pos h]
    exact ⟨hw, fun x => ⟨fun h2 => ⟨h2, fun h3 => by unfold hasS at h3; omega⟩, fun h2 => h2.1⟩, by omega⟩
  · rw [if_neg h]
    obtain ⟨h1, h2, _⟩ := cutL_law s (by omega) L hw
    exact ⟨h1, h2, cutL_len s (by omega) L hw⟩
theorem c_cutc (col : Nat → Nat) (i : Nat) (w : World) (b : Nat) (L : List Sp) (h : CvO col i w b L) (hw : Wf L) (hn : L.length ≤ 8796093022206) (lo hi : Int) :
    Calls Try.prog 12 #[.pointer (some ⟨b, 0, none⟩), .agg #[.int .i64 lo, .int .i64 hi]] w fun e w' => e = .returned (.tuple #[]) ∧ CvO (paint col w i) i w' b (cutC L (lo, hi)) ∧ Ch col i w w' := by
  by_cases hlh : lo < hi
  · have e : cutC L (lo, hi) = cutL (lo, hi) L := by unfold cutC; rw [if_neg (by show ¬ hi ≤ lo; omega)]
    rw [e]
    exact cut_some col i w b L h hw hn lo hi hlh
  · have e : cutC L (lo, hi) = L := by unfold cutC; rw [if_pos (by show hi ≤ lo; omega)]
    rw [e]
    have he : ∀ w, Calls Try.prog 31 #[.agg #[.int .i64 lo, .int .i64 hi]] w fun e w' => e = .returned (.bool true) ∧ Below w.heap.size w w' := fun w => by have := c_empty lo hi w; rw [decide_eq_true (show hi ≤ lo by omega)] at this; exact this
    have HE := Lib.hid he; have HC := Lib.hid h
    clear he h hw hn hlh
    go_enter Try.func12, Try.ntmps12
    go_upto_region 1 with fail
    refine Ph.at_world ?_; intro W1 hW
    have k3 : hp W1 w.heap.size = some (.cells #[.int .i64 lo, .int .i64 hi] 30 (0, 0)) := by rw [hW]; simp [hpA]
    have HB1 := Lib.hid (show Below w.heap.size w W1 by rw [hW]; exact below_alloc (Below.refl _ _) _)
    clear hW
    have c3 := hp_cell k3
    clear k3
    go_wp2_with (go_at_call 31; (with_reducible refine (HE.out _).mono ?_); rintro e w1 ⟨rfl, hb1⟩; have HB2 := Lib.hid (below_call HB1.out hb1); clear hb1)
    refine bodyPost_ret (v := .tuple #[]) (results_none rfl _ _ _) rfl ?_
    have hk := HC.out.kept (col' := paint col w i) (S := []) ((Mv.new (S := []) HB2.out i)) (by simp)
    exact ⟨rfl, hk, Ch.of_below HB2.out⟩
def newL (M : List Sp) : List Sp := M.foldl addL []
theorem newL_take (M : List Sp) (k : Nat) (a : Sp) (h : M[k]? = some a) : newL (M.take (k + 1)) = addL (newL (M.take k)) a := by
  unfold newL
  rw [List.take_add_one, h, List.foldl_append]; rfl
theorem newL_law : ∀ (M : List Sp) (k : Nat), Wf (newL (M.take k)) ∧ (newL (M.take k)).length ≤ k := by
  intro M k
  induction k with
  | zero => exact ⟨Wf.nil, Nat.le_refl _⟩
  | succ k ih =>
    cases e : M[k]? with
    | none =>
      have : M.take (k + 1) = M.take k := by rw [List.take_add_one, e]; simp
      rw [this]; exact ⟨ih.1, by omega⟩
    | some a =>
      rw [newL_take M k a e]
      obtain ⟨h1, _, h3⟩ := addL_law ih.1 a
      exact ⟨h1, by omega⟩
set_option maxHeartbeats 2000000 in
/-- New: a cover of its own. -/
theorem c_new (col : Nat → Nat) (i : Nat) (w : World) (v : Value) (M : List Sp) (hv : ∀ W, Ch col i w W → RdL W v M) (hn : M.length ≤ 8796093022206) :
    Calls Try.prog 11 #[v] w fun e w' => ∃ b, e = .returned (.pointer (some ⟨b, 0, none⟩)) ∧ w.heap.size ≤ b ∧ CvO (paint col w i) i w' b (newL M) ∧ Ch col i w w' := by
  have HV := Lib.hid hv
  obtain ⟨p, cp, rfl, hx0⟩ := hv w Ch.refl
  obtain ⟨n, hnn⟩ : ∃ n, M.length = n := ⟨_, rfl⟩
  rw [hnn] at HV hn ⊢
  have HN := Lib.hid (And.intro hn hnn)
  clear hv hn hnn hx0
  go_enter Try.func11, Try.ntmps11
  go_upto_region 2 with fail
  refine Ph.at_world ?_; intro W1 hW
  obtain ⟨b, hb0⟩ : ∃ b, w.heap.size = b := ⟨_, rfl⟩
  have kb : hp W1 b = some (.cells #[.slice none 0 0] 60 (0, 0)) := by rw [hW, ← hb0]; simp [hpA]
  have hB1 : Below w.heap.size w W1 := by rw [hW]; exact below_alloc (Below.refl _ _) _
  clear hW
  have hcv : CvO (paint col w i) i W1 b [] := ⟨_, ⟨kb, paint_new (by omega)⟩, Row.nil'⟩
  have hch : Ch col i w W1 := Ch.of_below hB1
  rw [hb0]
  have HB0 := Lib.hid hb0
  clear hb0 kb hB1
  go_wp2
  go_loopw [10] (fun t wr => ∃ k : Nat, t = .int .i64 k ∧ k ≤ n ∧ CvO (paint col w i) i wr b (newL (M.take k)) ∧ Ch col i w wr) (fun t _ => n - (intOf t).toNat)
  case atStart => exact ⟨0, rfl, Nat.zero_le _, hcv, hch⟩
  case round =>
    clear hcv hch
    obtain ⟨k, rfl, hk, hcv, hch⟩ := hrel
    have HI := Lib.hid (And.intro hk (And.intro hcv hch))
    clear hk hcv
    by_cases hlt : k < n
    · have b1 : (k : Int) < (n : Int) := by omega
      have w1' : IntKind.i64.wrap ((k : Int) + 1) = (k : Int) + 1 := IntWalk.i64_in _ (by have := HN.out; omega)
      obtain ⟨a, ha⟩ := get_lt (L := M) (k := k) (by rw [HN.out.2]; exact hlt)
      obtain ⟨g, o, rfl, y1, y2⟩ := (HV.out _ hch).at ha
      have HA := Lib.hid ha; clear ha hch
      obtain ⟨a1, a2⟩ := a
      go_upto_region 5 with fail
      refine Ph.at_world ?_; intro W5 hW
      have k5 : hp W5 wr.heap.size = some (.cells #[.int .i64 a1, .int .i64 a2] 30 (0, 0)) := by rw [hW]; simp [hpA, hpS, cset_cells]
      have hB5 : Below wr.heap.size wr W5 := by rw [hW]; exact by (repeat (first | (with_reducible assumption) | (with_reducible exact Below.refl _ _) | (with_reducible refine below_set ?_ (by first | assumption | (simp; done) | (simp; omega) | omega) _) | (with_reducible apply below_alloc) | (with_reducible apply below_drew) | (with_reducible apply below_drewN) | (with_reducible refine below_call ?_ (by assumption))))
      clear hW y1 y2
      have c5 := hp_cell k5
      have HL := Lib.hid (newL_law M k)
      have HAD := Lib.hid (c_add (paint col w i) i W5 b _ (HI.out.2.1.below hB5) HL.out.1 (by have := HL.out.2; have := HN.out; omega) a1 a2)
      have HB5 := Lib.hid hB5
      clear k5 hB5
      go_wp2_with (go_at_call 14; (with_reducible refine HAD.out.mono ?_); rintro e w6 ⟨rfl, h1, h2⟩; have HX := Lib.hid (And.intro h1 h2); clear h1 h2 c5)
      go_roundw
      case rel =>
        have hI := HI.out
        have hsz : w.heap.size ≤ W5.heap.size := Nat.le_trans hI.2.2.size HB5.out.size
        have hX := HX.out.1
        rw [paint_paint hsz, ← newL_take M k _ HA.out] at hX
        exact ⟨k + 1, by go_num, by omega, hX, (hI.2.2.below HB5.out).trans HX.out.2⟩
      case measure => simp [intOf]; omega
    · obtain rfl : k = n := by have := HI.out.1; omega
      have b1 : ¬ ((k : Int) < (k : Int)) := by omega
      clear hch
      go_wp2
      go_ret
      have hI := HI.out
      have ek : M.take k = M := by rw [← HN.out.2]; exact List.take_length
      rw [ek] at hI
      exact ⟨b, rfl, by rw [HB0.out]; exact Nat.le_refl _, hI.2.1, hI.2.2⟩
end Go.Proofs.Ytnofclmnjhkhiaa
