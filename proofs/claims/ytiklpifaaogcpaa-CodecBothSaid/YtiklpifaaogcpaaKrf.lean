/- The reference's Encode. -/
import Derived.Test.YtiklpifaaogcpaaKrl
import Derived.Test.YtiklpifaaogcpaaKre
import Derived.Test.YtiklpifaaogcpaaKre2
import Derived.Test.YtiklpifaaogcpaaKen
import Derived.WalkKit
import Derived.WalkLawsBesides
import Derived.WalkSpells
import Derived.Below
import Derived.Deep.RegionHeld3
import Derived.Deep.QuietTactic
import Derived.BigQuiet
import Derived.Deep.DeepCutAuto
import Derived.Deep.DeepMust
import Derived.KernelRfl
import Derived.Lib.Hide
import Derived.Outline
import Derived.RegionTactic
import Derived.StillTailTactics
import Derived.Laws.IdiomStrings
import Derived.Handy
namespace Go.Proofs.Ytiklpifaaogcpaa
open Go.RowKit Go.Cl Go.Wr Go.Kc
set_option maxRecDepth 100000
set_option linter.unusedVariables false
set_option linter.unusedSimpArgs false


set_option maxHeartbeats 2000000 in
theorem r_enc_bad (kind : Int) (node inc ses tx seq lo hi err n : Int) (key data : ByteArray) (has hit : Bool) (W : List Wt) (K : List ByteArray) (wp kp : Option Addr) (wq kq : Nat) (w : World) (hW : LsW w wp wq W) (hK : LsS w kp kq K) (hc : chkM ⟨kind, node, inc, ses, tx, seq, key, lo, hi, has, data, hit, err, n, W, K⟩ ≠ 0) :
    Calls Try.prog 11 #[.agg #[.int .i64 kind, .int .i64 node, .int .i64 inc, .int .i64 ses, .int .i64 tx, .int .i64 seq, .string key, .int .i64 lo, .int .i64 hi, .bool has, .string data, .bool hit, .int .i64 err, .int .i64 n, .slice wp W.length wq, .slice kp K.length kq]] w fun e w' => e = .returned (.tuple #[.string ⟨#[]⟩, .int .i64 (chkM ⟨kind, node, inc, ses, tx, seq, key, lo, hi, has, data, hit, err, n, W, K⟩)]) ∧ Below w.heap.size w w' := by
  have hb0 : Below w.heap.size w (w.alloc (.cells #[.int .i64 kind, .int .i64 node, .int .i64 inc, .int .i64 ses, .int .i64 tx, .int .i64 seq, .string key, .int .i64 lo, .int .i64 hi, .bool has, .string data, .bool hit, .int .i64 err, .int .i64 n, .slice wp W.length wq, .slice kp K.length kq] 30)) := below_alloc (Below.refl _ _) _
  have hz0 := hp_alloc_new w (.cells #[.int .i64 kind, .int .i64 node, .int .i64 inc, .int .i64 ses, .int .i64 tx, .int .i64 seq, .string key, .int .i64 lo, .int .i64 hi, .bool has, .string data, .bool hit, .int .i64 err, .int .i64 n, .slice wp W.length wq, .slice kp K.length kq] 30)
  have HCK := Lib.hid (fun W' hb => c_rcheck ⟨kind, node, inc, ses, tx, seq, key, lo, hi, has, data, hit, err, n, W, K⟩ wp wq kp kq W' (hW.below hb) (Nat.le_trans hW.cap.1 hW.cap.2) (hK.below hb) (Nat.le_trans hK.cap.1 hK.cap.2))
  have hne : (chkM ⟨kind, node, inc, ses, tx, seq, key, lo, hi, has, data, hit, err, n, W, K⟩ != 0) = true := by simpa using hc
  clear hW hK hc
  generalize chkM ⟨kind, node, inc, ses, tx, seq, key, lo, hi, has, data, hit, err, n, W, K⟩ = E at *
  go_enter Try.func11, Try.ntmps11
  iterate 17 go_step
  refine ld_op rfl (.tmp 1) rfl w.heap.size rfl _ hz0 rfl ?_
  simp only [Act.put, List.setIfInBounds_toArray, List.set_cons_zero, List.set_cons_succ]
  go_wp2_with fail
  refine (HCK.out _ hb0).mono ?_; rintro e w1 ⟨rfl, hb1⟩
  go_wp2
  go_ret2
  exact ⟨rfl, below_call hb0 hb1⟩
theorem c_rencode (m : Mg) (hIn : m.In) (wp : Option Addr) (wq : Nat) (kp : Option Addr) (kq : Nat) (w : World) (hW : LsW w wp wq m.W) (hK : LsS w kp kq m.K) :
    Calls Try.prog 11 #[.agg (m.cs wp wq kp kq)] w fun e w' => (chkM m = 0 → e = .returned (.tuple #[.string ⟨(encM m).toArray⟩, .int .i64 0])) ∧ (chkM m ≠ 0 → e = .returned (.tuple #[.string ⟨#[]⟩, .int .i64 (chkM m)])) ∧ Below w.heap.size w w' := by
  obtain ⟨kind, node, inc, ses, tx, seq, key, lo, hi, has, data, hit, err, n, W, K⟩ := m
  by_cases hc : chkM ⟨kind, node, inc, ses, tx, seq, key, lo, hi, has, data, hit, err, n, W, K⟩ = 0
  rotate_left
  · refine (r_enc_bad kind node inc ses tx seq lo hi err n key data has hit W K wp kp wq kq w hW hK hc).mono fun e w' h => ⟨fun h0 => absurd h0 hc, fun _ => h.1, h.2⟩
  obtain ⟨hk, hO⟩ := chk_zero hc
  have fin : ∀ (e : Ending) (w' : World), (e = .returned (.tuple #[.string ⟨(encM ⟨kind, node, inc, ses, tx, seq, key, lo, hi, has, data, hit, err, n, W, K⟩).toArray⟩, .int .i64 0]) ∧ Below w.heap.size w w') → (chkM ⟨kind, node, inc, ses, tx, seq, key, lo, hi, has, data, hit, err, n, W, K⟩ = 0 → e = .returned (.tuple #[.string ⟨(encM ⟨kind, node, inc, ses, tx, seq, key, lo, hi, has, data, hit, err, n, W, K⟩).toArray⟩, .int .i64 0])) ∧ (chkM ⟨kind, node, inc, ses, tx, seq, key, lo, hi, has, data, hit, err, n, W, K⟩ ≠ 0 → e = .returned (.tuple #[.string ⟨#[]⟩, .int .i64 (chkM ⟨kind, node, inc, ses, tx, seq, key, lo, hi, has, data, hit, err, n, W, K⟩)])) ∧ Below w.heap.size w w' := fun e w' h => ⟨fun _ => h.1, fun hn => absurd hc hn, h.2⟩
  dsimp only at hk hW hK
  obtain rfl | rfl | rfl | rfl | rfl | rfl | rfl | rfl | rfl | rfl | rfl := (by omega : kind = 1 ∨ kind = 2 ∨ kind = 3 ∨ kind = 4 ∨ kind = 5 ∨ kind = 6 ∨ kind = 7 ∨ kind = 8 ∨ kind = 9 ∨ kind = 10 ∨ kind = 11)
  · exact (r_enc_1 node inc ses tx seq lo hi err n key data has hit W K wp kp wq kq w hW hK hIn hO).mono fin
  · exact (r_enc_2 node inc ses tx seq lo hi err n key data has hit W K wp kp wq kq w hW hK hIn hO).mono fin
  · exact (r_enc_3 node inc ses tx seq lo hi err n key data has hit W K wp kp wq kq w hW hK hIn hO).mono fin
  · cases hit
    · exact (r_enc_4f node inc ses tx seq lo hi err n key data has false W K wp kp wq kq w hW hK hIn hO).mono fin
    · exact (r_enc_4t node inc ses tx seq lo hi err n key data has true W K wp kp wq kq w hW hK hIn hO).mono fin
  · exact (r_enc_5 node inc ses tx seq lo hi err n key data has hit W K wp kp wq kq w hW hK hIn hO).mono fin
  · by_cases he : err = 0
    · subst he; exact (r_enc_6t node inc ses tx seq lo hi 0 n key data has hit W K wp kp wq kq w hW hK hIn hO).mono fin
    · exact (r_enc_6f node inc ses tx seq lo hi err n key data has hit W K wp kp wq kq w hW hK hIn hO (by simpa using he)).mono fin
  · exact (r_enc_7 node inc ses tx seq lo hi err n key data has hit W K wp kp wq kq w hW hK hIn hO).mono fin
  · exact (r_enc_8 node inc ses tx seq lo hi err n key data has hit W K wp kp wq kq w hW hK hIn hO).mono fin
  · exact (r_enc_9 node inc ses tx seq lo hi err n key data has hit W K wp kp wq kq w hW hK hIn hO).mono fin
  · exact (r_enc_10 node inc ses tx seq lo hi err n key data has hit W K wp kp wq kq w hW hK hIn hO).mono fin
  · exact (r_enc_11 node inc ses tx seq lo hi err n key data has hit W K wp kp wq kq w hW hK hIn hO).mono fin

end Go.Proofs.Ytiklpifaaogcpaa
