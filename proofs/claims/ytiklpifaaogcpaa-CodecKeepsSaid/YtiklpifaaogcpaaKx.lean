/- Check. -/
import Derived.Test.YtiklpifaaogcpaaKs
import Derived.Test.YtiklpifaaogcpaaKv
import Derived.WalkKit
import Derived.WalkLawsBesides
import Derived.WalkSpells
import Derived.Below
import Derived.Deep.RegionHeld3
import Derived.Deep.QuietTactic
import Derived.BigQuiet
import Derived.Deep.DeepCutAuto
import Derived.Deep.DeepMust
import Derived.KernelRfl
import Derived.Lib.Hide
import Derived.Outline
import Derived.RegionTactic
import Derived.StillTailTactics
import Derived.Laws.IdiomStrings
import Derived.Handy
namespace Go.Proofs.Ytiklpifaaogcpaa
open Go.RowKit Go.Cl Go.Wr Go.Kc
set_option maxRecDepth 100000
set_option linter.unusedVariables false
set_option linter.unusedSimpArgs false


theorem c_unusedM (kind node inc ses tx seq lo hi err n : Int) (key data : ByteArray) (has hit : Bool) (W : List Wt) (K : List ByteArray) (wp kp : Option Addr) (wq kq : Nat) (w : World) (hk : 1 ≤ kind ∧ kind ≤ 11) : Calls Try.prog 29 #[.agg #[.int .i64 kind, .int .i64 node, .int .i64 inc, .int .i64 ses, .int .i64 tx, .int .i64 seq, .string key, .int .i64 lo, .int .i64 hi, .bool has, .string data, .bool hit, .int .i64 err, .int .i64 n, .slice wp W.length wq, .slice kp K.length kq]] w (RetB (UnM ⟨kind, node, inc, ses, tx, seq, key, lo, hi, has, data, hit, err, n, W, K⟩) w) := by
  rcases (by omega : kind = 1 ∨ kind = 2 ∨ kind = 3 ∨ kind = 4 ∨ kind = 5 ∨ kind = 6 ∨ kind = 7 ∨ kind = 8 ∨ kind = 9 ∨ kind = 10 ∨ kind = 11) with rfl | rfl | rfl | rfl | rfl | rfl | rfl | rfl | rfl | rfl | rfl
  · exact c_unused_1 node inc ses tx seq lo hi err n key data has hit W K wp kp wq kq w
  · exact c_unused_2 node inc ses tx seq lo hi err n key data has hit W K wp kp wq kq w
  · exact c_unused_3 node inc ses tx seq lo hi err n key data has hit W K wp kp wq kq w
  · cases hit
    · exact c_unused_4f node inc ses tx seq lo hi err n key data has false W K wp kp wq kq w
    · exact c_unused_4t node inc ses tx seq lo hi err n key data has true W K wp kp wq kq w
  · exact c_unused_5 node inc ses tx seq lo hi err n key data has hit W K wp kp wq kq w
  · by_cases he : err = 0
    · subst he; exact c_unused_6t node inc ses tx seq lo hi 0 n key data has hit W K wp kp wq kq w
    · exact c_unused_6f node inc ses tx seq lo hi err n key data has hit W K wp kp wq kq w (by simpa using he)
  · exact c_unused_7 node inc ses tx seq lo hi err n key data has hit W K wp kp wq kq w
  · exact c_unused_8 node inc ses tx seq lo hi err n key data has hit W K wp kp wq kq w
  · exact c_unused_9 node inc ses tx seq lo hi err n key data has hit W K wp kp wq kq w
  · exact c_unused_10 node inc ses tx seq lo hi err n key data has hit W K wp kp wq kq w
  · exact c_unused_11 node inc ses tx seq lo hi err n key data has hit W K wp kp wq kq w

theorem c_thingsM (kind node inc ses tx seq lo hi err n : Int) (key data : ByteArray) (has hit : Bool) (W : List Wt) (K : List ByteArray) (wp kp : Option Addr) (wq kq : Nat) (w : World) (hk : 1 ≤ kind ∧ kind ≤ 11) (hU : UnM ⟨kind, node, inc, ses, tx, seq, key, lo, hi, has, data, hit, err, n, W, K⟩) (hW : LsW w wp wq W) (hWn : W.length ≤ 9223372036854775807) (hK : LsS w kp kq K) (hKn : K.length ≤ 9223372036854775807) : Calls Try.prog 31 #[.agg #[.int .i64 kind, .int .i64 node, .int .i64 inc, .int .i64 ses, .int .i64 tx, .int .i64 seq, .string key, .int .i64 lo, .int .i64 hi, .bool has, .string data, .bool hit, .int .i64 err, .int .i64 n, .slice wp W.length wq, .slice kp K.length kq]] w (RetB (ThM ⟨kind, node, inc, ses, tx, seq, key, lo, hi, has, data, hit, err, n, W, K⟩) w) := by
  rcases (by omega : kind = 1 ∨ kind = 2 ∨ kind = 3 ∨ kind = 4 ∨ kind = 5 ∨ kind = 6 ∨ kind = 7 ∨ kind = 8 ∨ kind = 9 ∨ kind = 10 ∨ kind = 11) with rfl | rfl | rfl | rfl | rfl | rfl | rfl | rfl | rfl | rfl | rfl
  · exact c_things_1 node inc ses tx seq lo hi err n key data has hit W K wp kp wq kq w hW hWn
  · exact c_things_2 node inc ses tx seq lo hi err n key data has hit W K wp kp wq kq w
  · exact c_things_3 node inc ses tx seq lo hi err n key data has hit W K wp kp wq kq w
  · cases hit
    · exact c_things_4f node inc ses tx seq lo hi err n key data has false W K wp kp wq kq w
    · exact c_things_4t node inc ses tx seq lo hi err n key data has true W K wp kp wq kq w
  · exact c_things_5 node inc ses tx seq lo hi err n key data has hit W K wp kp wq kq w
  · have hh : hit = false := by have := hU.hit; simpa using this
    subst hh
    by_cases he : err = 0
    · subst he; exact c_things_6t node inc ses tx seq lo hi 0 n key data has false W K wp kp wq kq w
    · exact c_things_6f node inc ses tx seq lo hi err n key data has false W K wp kp wq kq w (by simpa using he)
  · exact c_things_7 node inc ses tx seq lo hi err n key data has hit W K wp kp wq kq w
  · exact c_things_8 node inc ses tx seq lo hi err n key data has hit W K wp kp wq kq w hK hKn
  · exact c_things_9 node inc ses tx seq lo hi err n key data has hit W K wp kp wq kq w
  · exact c_things_10 node inc ses tx seq lo hi err n key data has hit W K wp kp wq kq w
  · exact c_things_11 node inc ses tx seq lo hi err n key data has hit W K wp kp wq kq w

set_option maxHeartbeats 4000000 in
theorem c_checkR (kind node inc ses tx seq lo hi err n : Int) (key data : ByteArray) (has hit : Bool) (W : List Wt) (K : List ByteArray) (wp kp : Option Addr) (wq kq : Nat) (w : World) (hW : LsW w wp wq W) (hWn : W.length ≤ 9223372036854775807) (hK : LsS w kp kq K) (hKn : K.length ≤ 9223372036854775807) :
    Calls Try.prog 12 #[.agg #[.int .i64 kind, .int .i64 node, .int .i64 inc, .int .i64 ses, .int .i64 tx, .int .i64 seq, .string key, .int .i64 lo, .int .i64 hi, .bool has, .string data, .bool hit, .int .i64 err, .int .i64 n, .slice wp W.length wq, .slice kp K.length kq]] w fun e w' => e = .returned (.int .i64 (chkM ⟨kind, node, inc, ses, tx, seq, key, lo, hi, has, data, hit, err, n, W, K⟩)) ∧ Below w.heap.size w w' := by
  have hb0 : Below w.heap.size w (w.alloc (.cells #[.int .i64 kind, .int .i64 node, .int .i64 inc, .int .i64 ses, .int .i64 tx, .int .i64 seq, .string key, .int .i64 lo, .int .i64 hi, .bool has, .string data, .bool hit, .int .i64 err, .int .i64 n, .slice wp W.length wq, .slice kp K.length kq] 30)) := below_alloc (Below.refl _ _) _
  have hz0 := hp_alloc_new w (.cells #[.int .i64 kind, .int .i64 node, .int .i64 inc, .int .i64 ses, .int .i64 tx, .int .i64 seq, .string key, .int .i64 lo, .int .i64 hi, .bool has, .string data, .bool hit, .int .i64 err, .int .i64 n, .slice wp W.length wq, .slice kp K.length kq] 30)
  have HK := Lib.hid (c_known kind (w.alloc (.cells #[.int .i64 kind, .int .i64 node, .int .i64 inc, .int .i64 ses, .int .i64 tx, .int .i64 seq, .string key, .int .i64 lo, .int .i64 hi, .bool has, .string data, .bool hit, .int .i64 err, .int .i64 n, .slice wp W.length wq, .slice kp K.length kq] 30)))
  have HW := Lib.hid hW
  have HWn := Lib.hid hWn
  have HKK := Lib.hid hK
  have HKn := Lib.hid hKn
  clear hW hWn hK hKn
  by_cases hk : 1 ≤ kind ∧ kind ≤ 11
  rotate_left
  · have hd : decide (1 ≤ kind ∧ kind ≤ 11) = false := by rw [decide_eq_false_iff_not]; exact hk
    rw [hd] at HK
    have hc : chkM ⟨kind, node, inc, ses, tx, seq, key, lo, hi, has, data, hit, err, n, W, K⟩ = 13 := by unfold chkM; rw [if_neg hk]
    rw [hc]
    clear hd hc hk
    go_enter Try.func12, Try.ntmps12
    go_wp2_with fail
    refine HK.out.mono ?_; rintro e w1 ⟨rfl, rfl⟩
    go_wp2
    go_ret
    exact ⟨rfl, hb0⟩
  have hd : decide (1 ≤ kind ∧ kind ≤ 11) = true := by rw [decide_eq_true_eq]; exact hk
  rw [hd] at HK
  have hc : ∀ v : Int, (OkM ⟨kind, node, inc, ses, tx, seq, key, lo, hi, has, data, hit, err, n, W, K⟩ → v = 0) → (¬ OkM ⟨kind, node, inc, ses, tx, seq, key, lo, hi, has, data, hit, err, n, W, K⟩ → v = 1) → v = chkM ⟨kind, node, inc, ses, tx, seq, key, lo, hi, has, data, hit, err, n, W, K⟩ := by
    intro v h1 h2
    unfold chkM
    rw [if_pos hk]
    split
    · exact h1 (by assumption)
    · exact h2 (by assumption)
  have HC := Lib.hid hc
  clear hd hc
  have HU := Lib.hid (fun W' => c_unusedM kind node inc ses tx seq lo hi err n key data has hit W K wp kp wq kq W' hk)
  have HN := Lib.hid (fun W' => c_numbers kind node inc ses tx seq lo hi err n key data has hit W K wp kp wq kq W' hk)
  have HT := Lib.hid (fun W' hU hW hK => c_thingsM kind node inc ses tx seq lo hi err n key data has hit W K wp kp wq kq W' hk hU hW HWn.out hK HKn.out)
  clear hk
  have hc0 := hp_cell hz0
  go_enter Try.func12, Try.ntmps12
  go_wp2_with fail
  refine HK.out.mono ?_; rintro e w1 ⟨rfl, rfl⟩
  go_wp2_with fail
  refine (HU.out _).mono ?_; rintro e w2 ⟨b1, rfl, h1, hb2⟩
  have hbb2 := below_call hb0 hb2
  have hz2 := hp_below hb2 hz0
  have hc2 := hp_cell hz2
  clear hc0
  have H1 := Lib.hid h1; clear h1
  cases b1
  · go_wp2
    go_ret
    exact ⟨congrArg (fun v => Ending.returned (Value.int .i64 v)) (HC.out 1 (fun h => absurd (H1.out.2 h.un) (by simp)) (fun _ => rfl)), hbb2⟩
  go_wp2_with fail
  refine (HN.out _).mono ?_; rintro e w3 ⟨b2, rfl, h2, hb3⟩
  have hbb3 := below_call hbb2 hb3
  have hz3 := hp_below hb3 hz2
  have hc3 := hp_cell hz3
  clear hc2
  have H2 := Lib.hid h2; clear h2
  cases b2
  · go_wp2
    go_ret
    exact ⟨congrArg (fun v => Ending.returned (Value.int .i64 v)) (HC.out 1 (fun h => absurd (H2.out.2 h.nu) (by simp)) (fun _ => rfl)), hbb3⟩
  go_wp2_with fail
  refine (HT.out _ (H1.out.1 (by first | rfl | trivial)) (HW.out.below hbb3) (HKK.out.below hbb3)).mono ?_; rintro e w4 ⟨b3, rfl, h3, hb4⟩
  have hbb4 := below_call hbb3 hb4
  have H3 := Lib.hid h3; clear h3 hc3
  cases b3
  · go_wp2
    go_ret
    exact ⟨congrArg (fun v => Ending.returned (Value.int .i64 v)) (HC.out 1 (fun h => absurd (H3.out.2 h.th) (by simp)) (fun _ => rfl)), hbb4⟩
  · go_wp2
    go_ret
    exact ⟨congrArg (fun v => Ending.returned (Value.int .i64 v)) (HC.out 0 (fun _ => rfl) (fun h => absurd ⟨H1.out.1 (by first | rfl | trivial), H2.out.1 (by first | rfl | trivial), H3.out.1 (by first | rfl | trivial)⟩ h)), hbb4⟩
theorem c_check (m : Mg) (wp : Option Addr) (wq : Nat) (kp : Option Addr) (kq : Nat) (w : World) (hW : LsW w wp wq m.W) (hWn : m.W.length ≤ 9223372036854775807) (hK : LsS w kp kq m.K) (hKn : m.K.length ≤ 9223372036854775807) :
    Calls Try.prog 12 #[.agg (m.cs wp wq kp kq)] w fun e w' => e = .returned (.int .i64 (chkM m)) ∧ Below w.heap.size w w' := by
  obtain ⟨kind, node, inc, ses, tx, seq, key, lo, hi, has, data, hit, err, n, W, K⟩ := m
  exact c_checkR kind node inc ses tx seq lo hi err n key data has hit W K wp kp wq kq w hW hWn hK hKn

end Go.Proofs.Ytiklpifaaogcpaa
