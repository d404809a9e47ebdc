/- The reference's Encode, kind by kind. -/
import Derived.Test.YtiklpifaaogcpaaKrk
import Derived.Test.YtiklpifaaogcpaaKrn
import Derived.WalkKit
import Derived.WalkLawsBesides
import Derived.WalkSpells
import Derived.Below
import Derived.Deep.RegionHeld3
import Derived.Deep.QuietTactic
import Derived.BigQuiet
import Derived.Deep.DeepCutAuto
import Derived.Deep.DeepMust
import Derived.KernelRfl
import Derived.Lib.Hide
import Derived.Outline
import Derived.RegionTactic
import Derived.StillTailTactics
import Derived.Laws.IdiomStrings
import Derived.Handy
namespace Go.Proofs.Ytiklpifaaogcpaa
open Go.RowKit Go.Cl Go.Wr Go.Kc
set_option maxRecDepth 100000
set_option linter.unusedVariables false
set_option linter.unusedSimpArgs false


set_option maxHeartbeats 4000000 in
theorem r_enc_2 (node inc ses tx seq lo hi err n : Int) (key data : ByteArray) (has hit : Bool) (W : List Wt) (K : List ByteArray) (wp kp : Option Addr) (wq kq : Nat) (w : World) (hW : LsW w wp wq W) (hK : LsS w kp kq K) (hI : Mg.In ⟨2, node, inc, ses, tx, seq, key, lo, hi, has, data, hit, err, n, W, K⟩) (hO : OkM ⟨2, node, inc, ses, tx, seq, key, lo, hi, has, data, hit, err, n, W, K⟩) :
    Calls Try.prog 11 #[.agg #[.int .i64 2, .int .i64 node, .int .i64 inc, .int .i64 ses, .int .i64 tx, .int .i64 seq, .string key, .int .i64 lo, .int .i64 hi, .bool has, .string data, .bool hit, .int .i64 err, .int .i64 n, .slice wp W.length wq, .slice kp K.length kq]] w fun e w' => e = .returned (.tuple #[.string ⟨(encM ⟨2, node, inc, ses, tx, seq, key, lo, hi, has, data, hit, err, n, W, K⟩).toArray⟩, .int .i64 0]) ∧ Below w.heap.size w w' := by
  have hb0 : Below w.heap.size w (w.alloc (.cells #[.int .i64 2, .int .i64 node, .int .i64 inc, .int .i64 ses, .int .i64 tx, .int .i64 seq, .string key, .int .i64 lo, .int .i64 hi, .bool has, .string data, .bool hit, .int .i64 err, .int .i64 n, .slice wp W.length wq, .slice kp K.length kq] 30)) := below_alloc (Below.refl _ _) _
  have hz0 := hp_alloc_new w (.cells #[.int .i64 2, .int .i64 node, .int .i64 inc, .int .i64 ses, .int .i64 tx, .int .i64 seq, .string key, .int .i64 lo, .int .i64 hi, .bool has, .string data, .bool hit, .int .i64 err, .int .i64 n, .slice wp W.length wq, .slice kp K.length kq] 30)
  have h0 : chkM ⟨2, node, inc, ses, tx, seq, key, lo, hi, has, data, hit, err, n, W, K⟩ = 0 := by unfold chkM; rw [if_pos (by simp), if_pos hO]
  have HCK : Hid (∀ W', Below w.heap.size w W' → Calls Try.prog 13 #[.agg #[.int .i64 2, .int .i64 node, .int .i64 inc, .int .i64 ses, .int .i64 tx, .int .i64 seq, .string key, .int .i64 lo, .int .i64 hi, .bool has, .string data, .bool hit, .int .i64 err, .int .i64 n, .slice wp W.length wq, .slice kp K.length kq]] W' fun e w' => e = .returned (.int .i64 0) ∧ Below W'.heap.size W' w') := Lib.hid (fun W' hb => by have h1 := c_rcheck ⟨2, node, inc, ses, tx, seq, key, lo, hi, has, data, hit, err, n, W, K⟩ wp wq kp kq W' (hW.below hb) (Nat.le_trans hW.cap.1 hW.cap.2) (hK.below hb) (Nat.le_trans hK.cap.1 hK.cap.2); rw [h0] at h1; exact h1)
  obtain ⟨S0, hS0⟩ : ∃ P : ByteArray, P = ⟨(encN 2).toArray⟩ := ⟨_, rfl⟩
  have zS0 : S0.size ≤ 10 := by rw [hS0, ba_sz]; exact encN_le hI.kind
  have HS0 : Hid (∀ W', Calls Try.prog 22 #[.int .i64 2] W' fun e w' => e = .returned (.string S0) ∧ Below W'.heap.size W' w') := Lib.hid (fun W' => by rw [hS0]; exact c_rnum 2 hI.kind W')
  obtain ⟨N, hN⟩ : ∃ P : ByteArray, P = ⟨(encN n).toArray⟩ := ⟨_, rfl⟩
  have zN : N.size ≤ 10 := by rw [hN, ba_sz]; exact encN_le hI.n
  have HN : Hid (∀ W', Calls Try.prog 23 #[.int .i64 n] W' fun e w' => e = .returned (.string N) ∧ Below W'.heap.size W' w') := Lib.hid (fun W' => by rw [hN]; exact ref_num W' n hI.n.1 hI.n.2)
  obtain ⟨P0, hP0⟩ : ∃ P : ByteArray, P = ⟨(encN ses).toArray⟩ := ⟨_, rfl⟩
  have zP0 : P0.size ≤ 10 := by rw [hP0, ba_sz]; exact encN_le hI.ses
  have HP0 : Hid (∀ W', Calls Try.prog 22 #[.int .i64 ses] W' fun e w' => e = .returned (.string P0) ∧ Below W'.heap.size W' w') := Lib.hid (fun W' => by rw [hP0]; exact c_rnum ses hI.ses W')
  obtain ⟨P1, hP1⟩ : ∃ P : ByteArray, P = ⟨(encN seq).toArray⟩ := ⟨_, rfl⟩
  have zP1 : P1.size ≤ 10 := by rw [hP1, ba_sz]; exact encN_le hI.seq
  have HP1 : Hid (∀ W', Calls Try.prog 22 #[.int .i64 seq] W' fun e w' => e = .returned (.string P1) ∧ Below W'.heap.size W' w') := Lib.hid (fun W' => by rw [hP1]; exact c_rnum seq hI.seq W')
  obtain ⟨P2, hP2⟩ : ∃ P : ByteArray, P = ⟨(encN err).toArray⟩ := ⟨_, rfl⟩
  have zP2 : P2.size ≤ 10 := by rw [hP2, ba_sz]; exact encN_le hI.err
  have HP2 : Hid (∀ W', Calls Try.prog 22 #[.int .i64 err] W' fun e w' => e = .returned (.string P2) ∧ Below W'.heap.size W' w') := Lib.hid (fun W' => by rw [hP2]; exact c_rnum err hI.err W')
  have a0 : ¬ 9223372036854775807 < S0.size + P0.size := by omega
  have a1 : ¬ 9223372036854775807 < S0.size + P0.size + P1.size := by omega
  have a2 : ¬ 9223372036854775807 < S0.size + P0.size + P1.size + P2.size := by omega
  have a3 : ¬ 9223372036854775807 < S0.size + P0.size + P1.size + P2.size + N.size := by omega
  have HEQ : Hid (S0 ++ P0 ++ P1 ++ P2 ++ N = ⟨(encM ⟨2, node, inc, ses, tx, seq, key, lo, hi, has, data, hit, err, n, W, K⟩).toArray⟩) := Lib.hid (by rw [hS0, hN, hP0, hP1, hP2]; simp only [ba2, ba0e]; congr 2; simp [encM, encF])
  clear hS0 zS0 hN zN hP0 zP0 hP1 zP1 hP2 zP2 h0 hI hO hW hK
  go_enter Try.func11, Try.ntmps11
  iterate 17 go_step
  refine ld_op rfl (.tmp 1) rfl w.heap.size rfl _ hz0 rfl ?_
  simp only [Act.put, List.setIfInBounds_toArray, List.set_cons_zero, List.set_cons_succ]
  go_wp2_with fail
  refine (HCK.out _ hb0).mono ?_; rintro e w1 ⟨rfl, hb1⟩
  have hb11 := below_call hb0 hb1
  have hz1 := hp_below hb1 hz0
  have hc1 := hp_cell hz1
  clear hb1 hz0 hb0
  go_wp2_with fail
  refine (HS0.out _).mono ?_; rintro e w2 ⟨rfl, hb2⟩
  have hb22 := below_call hb11 hb2
  have hz2 := hp_below hb2 hz1
  have hc2 := hp_cell hz2
  clear hc1 hb2 hz1 hb11
  go_wp2_with fail
  refine (HN.out _).mono ?_; rintro e w3 ⟨rfl, hb3⟩
  have hb33 := below_call hb22 hb3
  have hz3 := hp_below hb3 hz2
  have hc3 := hp_cell hz3
  clear hc2 hb3 hz2 hb22
  go_wp2
  clear hc3
  have hzd := hp_below (below_drew (Below.refl w3.heap.size _)) hz3
  refine Ph.region_at (by kernel_rfl) ?_
  refine Ph.at_quiet 16 (by kernel_rfl) ?_
  simp only [List.take_succ_cons, List.take_zero, List.drop_succ_cons, List.drop_zero]
  repeat ((first | (apply Ph.wpPh_g; (focus (intro w1 hS0; have hc := hp_cell (hp_below hS0 hzd); go_simp; first | exact rfl | exact ⟨rfl, Below.refl _ _⟩ | ((with_reducible refine (HP0.out _).mono ?_); rintro e w2 ⟨rfl, hb⟩; exact ⟨rfl, hb⟩) | ((with_reducible refine (HP1.out _).mono ?_); rintro e w2 ⟨rfl, hb⟩; exact ⟨rfl, hb⟩) | ((with_reducible refine (HP2.out _).mono ?_); rintro e w2 ⟨rfl, hb⟩; exact ⟨rfl, hb⟩))))); simp only [Act.put, List.setIfInBounds_toArray, List.set_cons_zero, List.set_cons_succ])
  refine Ph.wpPh_nil ?_; intro w9 hS
  refine Ph.at_end (by simp) ?_
  have hb99 := below_call hb33 (below_call (below_drew (Below.refl _ _)) hS)
  clear hS hzd hz3
  go_wp2
  go_ret2
  exact ⟨congrArg (fun v => Ending.returned (Value.tuple #[Value.string v, .int .i64 0])) HEQ.out, hb99⟩

set_option maxHeartbeats 4000000 in
theorem r_enc_3 (node inc ses tx seq lo hi err n : Int) (key data : ByteArray) (has hit : Bool) (W : List Wt) (K : List ByteArray) (wp kp : Option Addr) (wq kq : Nat) (w : World) (hW : LsW w wp wq W) (hK : LsS w kp kq K) (hI : Mg.In ⟨3, node, inc, ses, tx, seq, key, lo, hi, has, data, hit, err, n, W, K⟩) (hO : OkM ⟨3, node, inc, ses, tx, seq, key, lo, hi, has, data, hit, err, n, W, K⟩) :
    Calls Try.prog 11 #[.agg #[.int .i64 3, .int .i64 node, .int .i64 inc, .int .i64 ses, .int .i64 tx, .int .i64 seq, .string key, .int .i64 lo, .int .i64 hi, .bool has, .string data, .bool hit, .int .i64 err, .int .i64 n, .slice wp W.length wq, .slice kp K.length kq]] w fun e w' => e = .returned (.tuple #[.string ⟨(encM ⟨3, node, inc, ses, tx, seq, key, lo, hi, has, data, hit, err, n, W, K⟩).toArray⟩, .int .i64 0]) ∧ Below w.heap.size w w' := by
  have hb0 : Below w.heap.size w (w.alloc (.cells #[.int .i64 3, .int .i64 node, .int .i64 inc, .int .i64 ses, .int .i64 tx, .int .i64 seq, .string key, .int .i64 lo, .int .i64 hi, .bool has, .string data, .bool hit, .int .i64 err, .int .i64 n, .slice wp W.length wq, .slice kp K.length kq] 30)) := below_alloc (Below.refl _ _) _
  have hz0 := hp_alloc_new w (.cells #[.int .i64 3, .int .i64 node, .int .i64 inc, .int .i64 ses, .int .i64 tx, .int .i64 seq, .string key, .int .i64 lo, .int .i64 hi, .bool has, .string data, .bool hit, .int .i64 err, .int .i64 n, .slice wp W.length wq, .slice kp K.length kq] 30)
  have h0 : chkM ⟨3, node, inc, ses, tx, seq, key, lo, hi, has, data, hit, err, n, W, K⟩ = 0 := by unfold chkM; rw [if_pos (by simp), if_pos hO]
  have HCK : Hid (∀ W', Below w.heap.size w W' → Calls Try.prog 13 #[.agg #[.int .i64 3, .int .i64 node, .int .i64 inc, .int .i64 ses, .int .i64 tx, .int .i64 seq, .string key, .int .i64 lo, .int .i64 hi, .bool has, .string data, .bool hit, .int .i64 err, .int .i64 n, .slice wp W.length wq, .slice kp K.length kq]] W' fun e w' => e = .returned (.int .i64 0) ∧ Below W'.heap.size W' w') := Lib.hid (fun W' hb => by have h1 := c_rcheck ⟨3, node, inc, ses, tx, seq, key, lo, hi, has, data, hit, err, n, W, K⟩ wp wq kp kq W' (hW.below hb) (Nat.le_trans hW.cap.1 hW.cap.2) (hK.below hb) (Nat.le_trans hK.cap.1 hK.cap.2); rw [h0] at h1; exact h1)
  have hkey : key.size ≤ 32 := (hO.th.key (by simp)).1.2
  obtain ⟨S0, hS0⟩ : ∃ P : ByteArray, P = ⟨(encN 3).toArray⟩ := ⟨_, rfl⟩
  have zS0 : S0.size ≤ 10 := by rw [hS0, ba_sz]; exact encN_le hI.kind
  have HS0 : Hid (∀ W', Calls Try.prog 22 #[.int .i64 3] W' fun e w' => e = .returned (.string S0) ∧ Below W'.heap.size W' w') := Lib.hid (fun W' => by rw [hS0]; exact c_rnum 3 hI.kind W')
  obtain ⟨N, hN⟩ : ∃ P : ByteArray, P = ⟨(encN n).toArray⟩ := ⟨_, rfl⟩
  have zN : N.size ≤ 10 := by rw [hN, ba_sz]; exact encN_le hI.n
  have HN : Hid (∀ W', Calls Try.prog 23 #[.int .i64 n] W' fun e w' => e = .returned (.string N) ∧ Below W'.heap.size W' w') := Lib.hid (fun W' => by rw [hN]; exact ref_num W' n hI.n.1 hI.n.2)
  obtain ⟨P0, hP0⟩ : ∃ P : ByteArray, P = ⟨(encN node).toArray⟩ := ⟨_, rfl⟩
  have zP0 : P0.size ≤ 10 := by rw [hP0, ba_sz]; exact encN_le hI.node
  have HP0 : Hid (∀ W', Calls Try.prog 22 #[.int .i64 node] W' fun e w' => e = .returned (.string P0) ∧ Below W'.heap.size W' w') := Lib.hid (fun W' => by rw [hP0]; exact c_rnum node hI.node W')
  obtain ⟨P1, hP1⟩ : ∃ P : ByteArray, P = ⟨(encN tx).toArray⟩ := ⟨_, rfl⟩
  have zP1 : P1.size ≤ 10 := by rw [hP1, ba_sz]; exact encN_le hI.tx
  have HP1 : Hid (∀ W', Calls Try.prog 22 #[.int .i64 tx] W' fun e w' => e = .returned (.string P1) ∧ Below W'.heap.size W' w') := Lib.hid (fun W' => by rw [hP1]; exact c_rnum tx hI.tx W')
  obtain ⟨P2, hP2⟩ : ∃ P : ByteArray, P = ⟨(encN seq).toArray⟩ := ⟨_, rfl⟩
  have zP2 : P2.size ≤ 10 := by rw [hP2, ba_sz]; exact encN_le hI.seq
  have HP2 : Hid (∀ W', Calls Try.prog 22 #[.int .i64 seq] W' fun e w' => e = .returned (.string P2) ∧ Below W'.heap.size W' w') := Lib.hid (fun W' => by rw [hP2]; exact c_rnum seq hI.seq W')
  obtain ⟨P3, hP3⟩ : ∃ P : ByteArray, P = ⟨(encT' key).toArray⟩ := ⟨_, rfl⟩
  have zP3 : P3.size ≤ 42 := by rw [hP3, ba_sz]; exact rtxt_le hkey (by decide)
  have HP3 : Hid (∀ W', Calls Try.prog 26 #[.string key] W' fun e w' => e = .returned (.string P3) ∧ Below W'.heap.size W' w') := Lib.hid (fun W' => by rw [hP3]; exact ref_text W' key (Nat.le_trans hkey (by decide)) (Nat.le_trans (rtxt_le hkey (by decide)) (by decide)))
  obtain ⟨P4, hP4⟩ : ∃ P : ByteArray, P = ⟨(encP lo hi).toArray⟩ := ⟨_, rfl⟩
  have zP4 : P4.size ≤ 20 := by rw [hP4, ba_sz]; exact rencP_le hI.lo hI.hi
  have HP4 : Hid (∀ W', Calls Try.prog 25 #[.agg #[.int .i64 lo, .int .i64 hi]] W' fun e w' => e = .returned (.string P4) ∧ Below W'.heap.size W' w') := Lib.hid (fun W' => by rw [hP4]; exact c_rpin lo hi hI.lo hI.hi W')
  have a0 : ¬ 9223372036854775807 < S0.size + P0.size := by omega
  have a1 : ¬ 9223372036854775807 < S0.size + P0.size + P1.size := by omega
  have a2 : ¬ 9223372036854775807 < S0.size + P0.size + P1.size + P2.size := by omega
  have a3 : ¬ 9223372036854775807 < S0.size + P0.size + P1.size + P2.size + P3.size := by omega
  have a4 : ¬ 9223372036854775807 < S0.size + P0.size + P1.size + P2.size + P3.size + P4.size := by omega
  have HEQ : Hid (S0 ++ P0 ++ P1 ++ P2 ++ P3 ++ P4 = ⟨(encM ⟨3, node, inc, ses, tx, seq, key, lo, hi, has, data, hit, err, n, W, K⟩).toArray⟩) := Lib.hid (by rw [hS0, hP0, hP1, hP2, hP3, hP4]; simp only [ba2, ba0e]; congr 2; simp [encM, encF])
  clear hS0 zS0 hN zN hP0 zP0 hP1 zP1 hP2 zP2 hP3 zP3 hP4 zP4 h0 hI hO hW hK hkey
  go_enter Try.func11, Try.ntmps11
  iterate 17 go_step
  refine ld_op rfl (.tmp 1) rfl w.heap.size rfl _ hz0 rfl ?_
  simp only [Act.put, List.setIfInBounds_toArray, List.set_cons_zero, List.set_cons_succ]
  go_wp2_with fail
  refine (HCK.out _ hb0).mono ?_; rintro e w1 ⟨rfl, hb1⟩
  have hb11 := below_call hb0 hb1
  have hz1 := hp_below hb1 hz0
  have hc1 := hp_cell hz1
  clear hb1 hz0 hb0
  go_wp2_with fail
  refine (HS0.out _).mono ?_; rintro e w2 ⟨rfl, hb2⟩
  have hb22 := below_call hb11 hb2
  have hz2 := hp_below hb2 hz1
  have hc2 := hp_cell hz2
  clear hc1 hb2 hz1 hb11
  go_wp2_with fail
  refine (HN.out _).mono ?_; rintro e w3 ⟨rfl, hb3⟩
  have hb33 := below_call hb22 hb3
  have hz3 := hp_below hb3 hz2
  have hc3 := hp_cell hz3
  clear hc2 hb3 hz2 hb22
  go_wp2
  clear hc3
  have hzd := hp_below (below_drew (Below.refl w3.heap.size _)) hz3
  refine Ph.region_at (by kernel_rfl) ?_
  refine Ph.at_quiet 22 (by kernel_rfl) ?_
  simp only [List.take_succ_cons, List.take_zero, List.drop_succ_cons, List.drop_zero]
  repeat ((first | (apply Ph.wpPh_g; (focus (intro w1 hS0; have hc := hp_cell (hp_below hS0 hzd); go_simp; first | exact rfl | exact ⟨rfl, Below.refl _ _⟩ | ((with_reducible refine (HP0.out _).mono ?_); rintro e w2 ⟨rfl, hb⟩; exact ⟨rfl, hb⟩) | ((with_reducible refine (HP1.out _).mono ?_); rintro e w2 ⟨rfl, hb⟩; exact ⟨rfl, hb⟩) | ((with_reducible refine (HP2.out _).mono ?_); rintro e w2 ⟨rfl, hb⟩; exact ⟨rfl, hb⟩) | ((with_reducible refine (HP3.out _).mono ?_); rintro e w2 ⟨rfl, hb⟩; exact ⟨rfl, hb⟩) | ((with_reducible refine (HP4.out _).mono ?_); rintro e w2 ⟨rfl, hb⟩; exact ⟨rfl, hb⟩))))); simp only [Act.put, List.setIfInBounds_toArray, List.set_cons_zero, List.set_cons_succ])
  refine Ph.wpPh_nil ?_; intro w9 hS
  refine Ph.at_end (by simp) ?_
  have hb99 := below_call hb33 (below_call (below_drew (Below.refl _ _)) hS)
  clear hS hzd hz3
  go_wp2
  go_ret2
  exact ⟨congrArg (fun v => Ending.returned (Value.tuple #[Value.string v, .int .i64 0])) HEQ.out, hb99⟩

set_option maxHeartbeats 4000000 in
theorem r_enc_4f (node inc ses tx seq lo hi err n : Int) (key data : ByteArray) (has hit : Bool) (W : List Wt) (K : List ByteArray) (wp kp : Option Addr) (wq kq : Nat) (w : World) (hW : LsW w wp wq W) (hK : LsS w kp kq K) (hI : Mg.In ⟨4, node, inc, ses, tx, seq, key, lo, hi, has, data, false, err, n, W, K⟩) (hO : OkM ⟨4, node, inc, ses, tx, seq, key, lo, hi, has, data, false, err, n, W, K⟩) :
    Calls Try.prog 11 #[.agg #[.int .i64 4, .int .i64 node, .int .i64 inc, .int .i64 ses, .int .i64 tx, .int .i64 seq, .string key, .int .i64 lo, .int .i64 hi, .bool has, .string data, .bool false, .int .i64 err, .int .i64 n, .slice wp W.length wq, .slice kp K.length kq]] w fun e w' => e = .returned (.tuple #[.string ⟨(encM ⟨4, node, inc, ses, tx, seq, key, lo, hi, has, data, false, err, n, W, K⟩).toArray⟩, .int .i64 0]) ∧ Below w.heap.size w w' := by
  have hb0 : Below w.heap.size w (w.alloc (.cells #[.int .i64 4, .int .i64 node, .int .i64 inc, .int .i64 ses, .int .i64 tx, .int .i64 seq, .string key, .int .i64 lo, .int .i64 hi, .bool has, .string data, .bool false, .int .i64 err, .int .i64 n, .slice wp W.length wq, .slice kp K.length kq] 30)) := below_alloc (Below.refl _ _) _
  have hz0 := hp_alloc_new w (.cells #[.int .i64 4, .int .i64 node, .int .i64 inc, .int .i64 ses, .int .i64 tx, .int .i64 seq, .string key, .int .i64 lo, .int .i64 hi, .bool has, .string data, .bool false, .int .i64 err, .int .i64 n, .slice wp W.length wq, .slice kp K.length kq] 30)
  have h0 : chkM ⟨4, node, inc, ses, tx, seq, key, lo, hi, has, data, false, err, n, W, K⟩ = 0 := by unfold chkM; rw [if_pos (by simp), if_pos hO]
  have HCK : Hid (∀ W', Below w.heap.size w W' → Calls Try.prog 13 #[.agg #[.int .i64 4, .int .i64 node, .int .i64 inc, .int .i64 ses, .int .i64 tx, .int .i64 seq, .string key, .int .i64 lo, .int .i64 hi, .bool has, .string data, .bool false, .int .i64 err, .int .i64 n, .slice wp W.length wq, .slice kp K.length kq]] W' fun e w' => e = .returned (.int .i64 0) ∧ Below W'.heap.size W' w') := Lib.hid (fun W' hb => by have h1 := c_rcheck ⟨4, node, inc, ses, tx, seq, key, lo, hi, has, data, false, err, n, W, K⟩ wp wq kp kq W' (hW.below hb) (Nat.le_trans hW.cap.1 hW.cap.2) (hK.below hb) (Nat.le_trans hK.cap.1 hK.cap.2); rw [h0] at h1; exact h1)
  obtain ⟨S0, hS0⟩ : ∃ P : ByteArray, P = ⟨(encN 4).toArray⟩ := ⟨_, rfl⟩
  have zS0 : S0.size ≤ 10 := by rw [hS0, ba_sz]; exact encN_le hI.kind
  have HS0 : Hid (∀ W', Calls Try.prog 22 #[.int .i64 4] W' fun e w' => e = .returned (.string S0) ∧ Below W'.heap.size W' w') := Lib.hid (fun W' => by rw [hS0]; exact c_rnum 4 hI.kind W')
  obtain ⟨N, hN⟩ : ∃ P : ByteArray, P = ⟨(encN n).toArray⟩ := ⟨_, rfl⟩
  have zN : N.size ≤ 10 := by rw [hN, ba_sz]; exact encN_le hI.n
  have HN : Hid (∀ W', Calls Try.prog 23 #[.int .i64 n] W' fun e w' => e = .returned (.string N) ∧ Below W'.heap.size W' w') := Lib.hid (fun W' => by rw [hN]; exact ref_num W' n hI.n.1 hI.n.2)
  obtain ⟨P0, hP0⟩ : ∃ P : ByteArray, P = ⟨(encN tx).toArray⟩ := ⟨_, rfl⟩
  have zP0 : P0.size ≤ 10 := by rw [hP0, ba_sz]; exact encN_le hI.tx
  have HP0 : Hid (∀ W', Calls Try.prog 22 #[.int .i64 tx] W' fun e w' => e = .returned (.string P0) ∧ Below W'.heap.size W' w') := Lib.hid (fun W' => by rw [hP0]; exact c_rnum tx hI.tx W')
  obtain ⟨P1, hP1⟩ : ∃ P : ByteArray, P = ⟨(encN seq).toArray⟩ := ⟨_, rfl⟩
  have zP1 : P1.size ≤ 10 := by rw [hP1, ba_sz]; exact encN_le hI.seq
  have HP1 : Hid (∀ W', Calls Try.prog 22 #[.int .i64 seq] W' fun e w' => e = .returned (.string P1) ∧ Below W'.heap.size W' w') := Lib.hid (fun W' => by rw [hP1]; exact c_rnum seq hI.seq W')
  obtain ⟨P2, hP2⟩ : ∃ P : ByteArray, P = ⟨(bol false).toArray⟩ := ⟨_, rfl⟩
  have zP2 : P2.size ≤ 1 := by rw [hP2, ba_sz]; exact Nat.le_of_eq (bol1' _)
  have HP2 : Hid (∀ W', Calls Try.prog 27 #[.bool false] W' fun e w' => e = .returned (.string P2) ∧ W' = w') := Lib.hid (fun W' => by rw [hP2]; exact ref_bool W' false)
  have a0 : ¬ 9223372036854775807 < S0.size + P0.size := by omega
  have a1 : ¬ 9223372036854775807 < S0.size + P0.size + P1.size := by omega
  have a2 : ¬ 9223372036854775807 < S0.size + P0.size + P1.size + P2.size := by omega
  have a3 : ¬ 9223372036854775807 < S0.size + P0.size + P1.size + P2.size + 0 := by omega
  have HEQ : Hid (S0 ++ P0 ++ P1 ++ P2 ++ (⟨#[]⟩ : ByteArray) = ⟨(encM ⟨4, node, inc, ses, tx, seq, key, lo, hi, has, data, false, err, n, W, K⟩).toArray⟩) := Lib.hid (by rw [hS0, hP0, hP1, hP2]; simp only [ba2, ba0e]; congr 2; simp [encM, encF])
  clear hS0 zS0 hN zN hP0 zP0 hP1 zP1 hP2 zP2 h0 hI hO hW hK
  go_enter Try.func11, Try.ntmps11
  iterate 17 go_step
  refine ld_op rfl (.tmp 1) rfl w.heap.size rfl _ hz0 rfl ?_
  simp only [Act.put, List.setIfInBounds_toArray, List.set_cons_zero, List.set_cons_succ]
  go_wp2_with fail
  refine (HCK.out _ hb0).mono ?_; rintro e w1 ⟨rfl, hb1⟩
  have hb11 := below_call hb0 hb1
  have hz1 := hp_below hb1 hz0
  have hc1 := hp_cell hz1
  clear hb1 hz0 hb0
  go_wp2_with fail
  refine (HS0.out _).mono ?_; rintro e w2 ⟨rfl, hb2⟩
  have hb22 := below_call hb11 hb2
  have hz2 := hp_below hb2 hz1
  have hc2 := hp_cell hz2
  clear hc1 hb2 hz1 hb11
  go_wp2_with fail
  refine (HN.out _).mono ?_; rintro e w3 ⟨rfl, hb3⟩
  have hb33 := below_call hb22 hb3
  have hz3 := hp_below hb3 hz2
  have hc3 := hp_cell hz3
  clear hc2 hb3 hz2 hb22
  go_wp2
  clear hc3
  have hzd := hp_below (below_drew (Below.refl w3.heap.size _)) hz3
  refine Ph.region_at (by kernel_rfl) ?_
  refine Ph.at_quiet 16 (by kernel_rfl) ?_
  simp only [List.take_succ_cons, List.take_zero, List.drop_succ_cons, List.drop_zero]
  repeat ((first | (apply Ph.wpPh_g; (focus (intro w1 hS0; have hc := hp_cell (hp_below hS0 hzd); go_simp; first | exact rfl | exact ⟨rfl, Below.refl _ _⟩ | ((with_reducible refine (HP0.out _).mono ?_); rintro e w2 ⟨rfl, hb⟩; exact ⟨rfl, hb⟩) | ((with_reducible refine (HP1.out _).mono ?_); rintro e w2 ⟨rfl, hb⟩; exact ⟨rfl, hb⟩) | ((with_reducible refine (HP2.out _).mono ?_); rintro e w2 ⟨rfl, rfl⟩; exact ⟨rfl, Below.refl _ _⟩))))); simp only [Act.put, List.setIfInBounds_toArray, List.set_cons_zero, List.set_cons_succ])
  refine Ph.wpPh_nil ?_; intro w9 hS
  refine Ph.at_end (by simp) ?_
  have hb99 := below_call hb33 (below_call (below_drew (Below.refl _ _)) hS)
  clear hS hzd hz3
  go_wp2
  go_ret2
  exact ⟨congrArg (fun v => Ending.returned (Value.tuple #[Value.string v, .int .i64 0])) HEQ.out, hb99⟩

set_option maxHeartbeats 4000000 in
theorem r_enc_4t (node inc ses tx seq lo hi err n : Int) (key data : ByteArray) (has hit : Bool) (W : List Wt) (K : List ByteArray) (wp kp : Option Addr) (wq kq : Nat) (w : World) (hW : LsW w wp wq W) (hK : LsS w kp kq K) (hI : Mg.In ⟨4, node, inc, ses, tx, seq, key, lo, hi, has, data, true, err, n, W, K⟩) (hO : OkM ⟨4, node, inc, ses, tx, seq, key, lo, hi, has, data, true, err, n, W, K⟩) :
    Calls Try.prog 11 #[.agg #[.int .i64 4, .int .i64 node, .int .i64 inc, .int .i64 ses, .int .i64 tx, .int .i64 seq, .string key, .int .i64 lo, .int .i64 hi, .bool has, .string data, .bool true, .int .i64 err, .int .i64 n, .slice wp W.length wq, .slice kp K.length kq]] w fun e w' => e = .returned (.tuple #[.string ⟨(encM ⟨4, node, inc, ses, tx, seq, key, lo, hi, has, data, true, err, n, W, K⟩).toArray⟩, .int .i64 0]) ∧ Below w.heap.size w w' := by
  have hb0 : Below w.heap.size w (w.alloc (.cells #[.int .i64 4, .int .i64 node, .int .i64 inc, .int .i64 ses, .int .i64 tx, .int .i64 seq, .string key, .int .i64 lo, .int .i64 hi, .bool has, .string data, .bool true, .int .i64 err, .int .i64 n, .slice wp W.length wq, .slice kp K.length kq] 30)) := below_alloc (Below.refl _ _) _
  have hz0 := hp_alloc_new w (.cells #[.int .i64 4, .int .i64 node, .int .i64 inc, .int .i64 ses, .int .i64 tx, .int .i64 seq, .string key, .int .i64 lo, .int .i64 hi, .bool has, .string data, .bool true, .int .i64 err, .int .i64 n, .slice wp W.length wq, .slice kp K.length kq] 30)
  have h0 : chkM ⟨4, node, inc, ses, tx, seq, key, lo, hi, has, data, true, err, n, W, K⟩ = 0 := by unfold chkM; rw [if_pos (by simp), if_pos hO]
  have HCK : Hid (∀ W', Below w.heap.size w W' → Calls Try.prog 13 #[.agg #[.int .i64 4, .int .i64 node, .int .i64 inc, .int .i64 ses, .int .i64 tx, .int .i64 seq, .string key, .int .i64 lo, .int .i64 hi, .bool has, .string data, .bool true, .int .i64 err, .int .i64 n, .slice wp W.length wq, .slice kp K.length kq]] W' fun e w' => e = .returned (.int .i64 0) ∧ Below W'.heap.size W' w') := Lib.hid (fun W' hb => by have h1 := c_rcheck ⟨4, node, inc, ses, tx, seq, key, lo, hi, has, data, true, err, n, W, K⟩ wp wq kp kq W' (hW.below hb) (Nat.le_trans hW.cap.1 hW.cap.2) (hK.below hb) (Nat.le_trans hK.cap.1 hK.cap.2); rw [h0] at h1; exact h1)
  have hdat : data.size ≤ 256 := gV_le (hO.th.full (by simp [fullM])).1
  obtain ⟨S0, hS0⟩ : ∃ P : ByteArray, P = ⟨(encN 4).toArray⟩ := ⟨_, rfl⟩
  have zS0 : S0.size ≤ 10 := by rw [hS0, ba_sz]; exact encN_le hI.kind
  have HS0 : Hid (∀ W', Calls Try.prog 22 #[.int .i64 4] W' fun e w' => e = .returned (.string S0) ∧ Below W'.heap.size W' w') := Lib.hid (fun W' => by rw [hS0]; exact c_rnum 4 hI.kind W')
  obtain ⟨N, hN⟩ : ∃ P : ByteArray, P = ⟨(encN n).toArray⟩ := ⟨_, rfl⟩
  have zN : N.size ≤ 10 := by rw [hN, ba_sz]; exact encN_le hI.n
  have HN : Hid (∀ W', Calls Try.prog 23 #[.int .i64 n] W' fun e w' => e = .returned (.string N) ∧ Below W'.heap.size W' w') := Lib.hid (fun W' => by rw [hN]; exact ref_num W' n hI.n.1 hI.n.2)
  obtain ⟨P0, hP0⟩ : ∃ P : ByteArray, P = ⟨(encN tx).toArray⟩ := ⟨_, rfl⟩
  have zP0 : P0.size ≤ 10 := by rw [hP0, ba_sz]; exact encN_le hI.tx
  have HP0 : Hid (∀ W', Calls Try.prog 22 #[.int .i64 tx] W' fun e w' => e = .returned (.string P0) ∧ Below W'.heap.size W' w') := Lib.hid (fun W' => by rw [hP0]; exact c_rnum tx hI.tx W')
  obtain ⟨P1, hP1⟩ : ∃ P : ByteArray, P = ⟨(encN seq).toArray⟩ := ⟨_, rfl⟩
  have zP1 : P1.size ≤ 10 := by rw [hP1, ba_sz]; exact encN_le hI.seq
  have HP1 : Hid (∀ W', Calls Try.prog 22 #[.int .i64 seq] W' fun e w' => e = .returned (.string P1) ∧ Below W'.heap.size W' w') := Lib.hid (fun W' => by rw [hP1]; exact c_rnum seq hI.seq W')
  obtain ⟨P2, hP2⟩ : ∃ P : ByteArray, P = ⟨(bol true).toArray⟩ := ⟨_, rfl⟩
  have zP2 : P2.size ≤ 1 := by rw [hP2, ba_sz]; exact Nat.le_of_eq (bol1' _)
  have HP2 : Hid (∀ W', Calls Try.prog 27 #[.bool true] W' fun e w' => e = .returned (.string P2) ∧ W' = w') := Lib.hid (fun W' => by rw [hP2]; exact ref_bool W' true)
  obtain ⟨FV, hFV⟩ : ∃ P : ByteArray, P = ⟨(encV has data).toArray⟩ := ⟨_, rfl⟩
  have zFV : FV.size ≤ 267 := by rw [hFV, ba_sz]; exact rencV_le hdat
  have HFV : Hid (∀ W', Calls Try.prog 24 #[.agg #[.bool has, .string data]] W' fun e w' => e = .returned (.string FV) ∧ Below W'.heap.size W' w') := Lib.hid (fun W' => by rw [hFV]; exact c_rvalue has data hdat W')
  obtain ⟨FP, hFP⟩ : ∃ P : ByteArray, P = ⟨(encP lo hi).toArray⟩ := ⟨_, rfl⟩
  have zFP : FP.size ≤ 20 := by rw [hFP, ba_sz]; exact rencP_le hI.lo hI.hi
  have HFP : Hid (∀ W', Calls Try.prog 25 #[.agg #[.int .i64 lo, .int .i64 hi]] W' fun e w' => e = .returned (.string FP) ∧ Below W'.heap.size W' w') := Lib.hid (fun W' => by rw [hFP]; exact c_rpin lo hi hI.lo hI.hi W')
  have hf : ¬ 9223372036854775807 < FV.size + FP.size := by omega
  have zF : (FV ++ FP).size ≤ 300 := by rw [ByteArray.size_append]; omega
  have a0 : ¬ 9223372036854775807 < S0.size + P0.size := by omega
  have a1 : ¬ 9223372036854775807 < S0.size + P0.size + P1.size := by omega
  have a2 : ¬ 9223372036854775807 < S0.size + P0.size + P1.size + P2.size := by omega
  have a3 : ¬ 9223372036854775807 < S0.size + P0.size + P1.size + P2.size + (FV.size + FP.size) := by omega
  have HEQ : Hid (S0 ++ P0 ++ P1 ++ P2 ++ (FV ++ FP) = ⟨(encM ⟨4, node, inc, ses, tx, seq, key, lo, hi, has, data, true, err, n, W, K⟩).toArray⟩) := Lib.hid (by rw [hS0, hP0, hP1, hP2, hFV, hFP]; simp only [ba2, ba0e]; congr 2; simp [encM, encF])
  clear hS0 zS0 hN zN hP0 zP0 hP1 zP1 hP2 zP2 hFV zFV hFP zFP zF h0 hI hO hW hK hdat
  go_enter Try.func11, Try.ntmps11
  iterate 17 go_step
  refine ld_op rfl (.tmp 1) rfl w.heap.size rfl _ hz0 rfl ?_
  simp only [Act.put, List.setIfInBounds_toArray, List.set_cons_zero, List.set_cons_succ]
  go_wp2_with fail
  refine (HCK.out _ hb0).mono ?_; rintro e w1 ⟨rfl, hb1⟩
  have hb11 := below_call hb0 hb1
  have hz1 := hp_below hb1 hz0
  have hc1 := hp_cell hz1
  clear hb1 hz0 hb0
  go_wp2_with fail
  refine (HS0.out _).mono ?_; rintro e w2 ⟨rfl, hb2⟩
  have hb22 := below_call hb11 hb2
  have hz2 := hp_below hb2 hz1
  have hc2 := hp_cell hz2
  clear hc1 hb2 hz1 hb11
  go_wp2_with fail
  refine (HN.out _).mono ?_; rintro e w3 ⟨rfl, hb3⟩
  have hb33 := below_call hb22 hb3
  have hz3 := hp_below hb3 hz2
  have hc3 := hp_cell hz3
  clear hc2 hb3 hz2 hb22
  go_wp2
  clear hc3
  have hzd := hp_below (below_drew (Below.refl w3.heap.size _)) hz3
  refine Ph.region_at (by kernel_rfl) ?_
  refine Ph.at_quiet 8 (by kernel_rfl) ?_
  simp only [List.take_succ_cons, List.take_zero, List.drop_succ_cons, List.drop_zero]
  repeat ((first | (apply Ph.wpPh_g; (focus (intro w1 hS0; have hc := hp_cell (hp_below hS0 hzd); go_simp; first | exact rfl | exact ⟨rfl, Below.refl _ _⟩ | ((with_reducible refine (HFV.out _).mono ?_); rintro e w2 ⟨rfl, hb⟩; exact ⟨rfl, hb⟩) | ((with_reducible refine (HFP.out _).mono ?_); rintro e w2 ⟨rfl, hb⟩; exact ⟨rfl, hb⟩))))); simp only [Act.put, List.setIfInBounds_toArray, List.set_cons_zero, List.set_cons_succ])
  refine Ph.wpPh_nil ?_; intro w4 hS
  refine Ph.at_end (by simp) ?_
  have hb44 := below_call hb33 (below_call (below_drew (Below.refl _ _)) hS)
  have hz4 := hp_below hS hzd
  have hc4 := hp_cell hz4
  clear hS hzd hz3 hb33
  go_wp2
  clear hc4
  have hzd := hp_below (below_drew (Below.refl w4.heap.size _)) hz4
  refine Ph.region_at (by kernel_rfl) ?_
  refine Ph.at_quiet 16 (by kernel_rfl) ?_
  simp only [List.take_succ_cons, List.take_zero, List.drop_succ_cons, List.drop_zero]
  repeat ((first | (apply Ph.wpPh_g; (focus (intro w1 hS0; have hc := hp_cell (hp_below hS0 hzd); go_simp; first | exact rfl | exact ⟨rfl, Below.refl _ _⟩ | ((with_reducible refine (HP0.out _).mono ?_); rintro e w2 ⟨rfl, hb⟩; exact ⟨rfl, hb⟩) | ((with_reducible refine (HP1.out _).mono ?_); rintro e w2 ⟨rfl, hb⟩; exact ⟨rfl, hb⟩) | ((with_reducible refine (HP2.out _).mono ?_); rintro e w2 ⟨rfl, rfl⟩; exact ⟨rfl, Below.refl _ _⟩))))); simp only [Act.put, List.setIfInBounds_toArray, List.set_cons_zero, List.set_cons_succ])
  refine Ph.wpPh_nil ?_; intro w9 hS
  refine Ph.at_end (by simp) ?_
  have hb99 := below_call hb44 (below_call (below_drew (Below.refl _ _)) hS)
  clear hS hzd hz4
  go_wp2
  go_ret2
  exact ⟨congrArg (fun v => Ending.returned (Value.tuple #[Value.string v, .int .i64 0])) HEQ.out, hb99⟩

set_option maxHeartbeats 4000000 in
theorem r_enc_5 (node inc ses tx seq lo hi err n : Int) (key data : ByteArray) (has hit : Bool) (W : List Wt) (K : List ByteArray) (wp kp : Option Addr) (wq kq : Nat) (w : World) (hW : LsW w wp wq W) (hK : LsS w kp kq K) (hI : Mg.In ⟨5, node, inc, ses, tx, seq, key, lo, hi, has, data, hit, err, n, W, K⟩) (hO : OkM ⟨5, node, inc, ses, tx, seq, key, lo, hi, has, data, hit, err, n, W, K⟩) :
    Calls Try.prog 11 #[.agg #[.int .i64 5, .int .i64 node, .int .i64 inc, .int .i64 ses, .int .i64 tx, .int .i64 seq, .string key, .int .i64 lo, .int .i64 hi, .bool has, .string data, .bool hit, .int .i64 err, .int .i64 n, .slice wp W.length wq, .slice kp K.length kq]] w fun e w' => e = .returned (.tuple #[.string ⟨(encM ⟨5, node, inc, ses, tx, seq, key, lo, hi, has, data, hit, err, n, W, K⟩).toArray⟩, .int .i64 0]) ∧ Below w.heap.size w w' := by
  have hb0 : Below w.heap.size w (w.alloc (.cells #[.int .i64 5, .int .i64 node, .int .i64 inc, .int .i64 ses, .int .i64 tx, .int .i64 seq, .string key, .int .i64 lo, .int .i64 hi, .bool has, .string data, .bool hit, .int .i64 err, .int .i64 n, .slice wp W.length wq, .slice kp K.length kq] 30)) := below_alloc (Below.refl _ _) _
  have hz0 := hp_alloc_new w (.cells #[.int .i64 5, .int .i64 node, .int .i64 inc, .int .i64 ses, .int .i64 tx, .int .i64 seq, .string key, .int .i64 lo, .int .i64 hi, .bool has, .string data, .bool hit, .int .i64 err, .int .i64 n, .slice wp W.length wq, .slice kp K.length kq] 30)
  have h0 : chkM ⟨5, node, inc, ses, tx, seq, key, lo, hi, has, data, hit, err, n, W, K⟩ = 0 := by unfold chkM; rw [if_pos (by simp), if_pos hO]
  have HCK : Hid (∀ W', Below w.heap.size w W' → Calls Try.prog 13 #[.agg #[.int .i64 5, .int .i64 node, .int .i64 inc, .int .i64 ses, .int .i64 tx, .int .i64 seq, .string key, .int .i64 lo, .int .i64 hi, .bool has, .string data, .bool hit, .int .i64 err, .int .i64 n, .slice wp W.length wq, .slice kp K.length kq]] W' fun e w' => e = .returned (.int .i64 0) ∧ Below W'.heap.size W' w') := Lib.hid (fun W' hb => by have h1 := c_rcheck ⟨5, node, inc, ses, tx, seq, key, lo, hi, has, data, hit, err, n, W, K⟩ wp wq kp kq W' (hW.below hb) (Nat.le_trans hW.cap.1 hW.cap.2) (hK.below hb) (Nat.le_trans hK.cap.1 hK.cap.2); rw [h0] at h1; exact h1)
  have hkey : key.size ≤ 32 := (hO.th.key (by simp)).1.2
  obtain ⟨S0, hS0⟩ : ∃ P : ByteArray, P = ⟨(encN 5).toArray⟩ := ⟨_, rfl⟩
  have zS0 : S0.size ≤ 10 := by rw [hS0, ba_sz]; exact encN_le hI.kind
  have HS0 : Hid (∀ W', Calls Try.prog 22 #[.int .i64 5] W' fun e w' => e = .returned (.string S0) ∧ Below W'.heap.size W' w') := Lib.hid (fun W' => by rw [hS0]; exact c_rnum 5 hI.kind W')
  obtain ⟨N, hN⟩ : ∃ P : ByteArray, P = ⟨(encN n).toArray⟩ := ⟨_, rfl⟩
  have zN : N.size ≤ 10 := by rw [hN, ba_sz]; exact encN_le hI.n
  have HN : Hid (∀ W', Calls Try.prog 23 #[.int .i64 n] W' fun e w' => e = .returned (.string N) ∧ Below W'.heap.size W' w') := Lib.hid (fun W' => by rw [hN]; exact ref_num W' n hI.n.1 hI.n.2)
  obtain ⟨P0, hP0⟩ : ∃ P : ByteArray, P = ⟨(encN tx).toArray⟩ := ⟨_, rfl⟩
  have zP0 : P0.size ≤ 10 := by rw [hP0, ba_sz]; exact encN_le hI.tx
  have HP0 : Hid (∀ W', Calls Try.prog 22 #[.int .i64 tx] W' fun e w' => e = .returned (.string P0) ∧ Below W'.heap.size W' w') := Lib.hid (fun W' => by rw [hP0]; exact c_rnum tx hI.tx W')
  obtain ⟨P1, hP1⟩ : ∃ P : ByteArray, P = ⟨(encN seq).toArray⟩ := ⟨_, rfl⟩
  have zP1 : P1.size ≤ 10 := by rw [hP1, ba_sz]; exact encN_le hI.seq
  have HP1 : Hid (∀ W', Calls Try.prog 22 #[.int .i64 seq] W' fun e w' => e = .returned (.string P1) ∧ Below W'.heap.size W' w') := Lib.hid (fun W' => by rw [hP1]; exact c_rnum seq hI.seq W')
  obtain ⟨P2, hP2⟩ : ∃ P : ByteArray, P = ⟨(encT' key).toArray⟩ := ⟨_, rfl⟩
  have zP2 : P2.size ≤ 42 := by rw [hP2, ba_sz]; exact rtxt_le hkey (by decide)
  have HP2 : Hid (∀ W', Calls Try.prog 26 #[.string key] W' fun e w' => e = .returned (.string P2) ∧ Below W'.heap.size W' w') := Lib.hid (fun W' => by rw [hP2]; exact ref_text W' key (Nat.le_trans hkey (by decide)) (Nat.le_trans (rtxt_le hkey (by decide)) (by decide)))
  obtain ⟨P3, hP3⟩ : ∃ P : ByteArray, P = ⟨(encP lo hi).toArray⟩ := ⟨_, rfl⟩
  have zP3 : P3.size ≤ 20 := by rw [hP3, ba_sz]; exact rencP_le hI.lo hI.hi
  have HP3 : Hid (∀ W', Calls Try.prog 25 #[.agg #[.int .i64 lo, .int .i64 hi]] W' fun e w' => e = .returned (.string P3) ∧ Below W'.heap.size W' w') := Lib.hid (fun W' => by rw [hP3]; exact c_rpin lo hi hI.lo hI.hi W')
  have a0 : ¬ 9223372036854775807 < S0.size + P0.size := by omega
  have a1 : ¬ 9223372036854775807 < S0.size + P0.size + P1.size := by omega
  have a2 : ¬ 9223372036854775807 < S0.size + P0.size + P1.size + P2.size := by omega
  have a3 : ¬ 9223372036854775807 < S0.size + P0.size + P1.size + P2.size + P3.size := by omega
  have HEQ : Hid (S0 ++ P0 ++ P1 ++ P2 ++ P3 = ⟨(encM ⟨5, node, inc, ses, tx, seq, key, lo, hi, has, data, hit, err, n, W, K⟩).toArray⟩) := Lib.hid (by rw [hS0, hP0, hP1, hP2, hP3]; simp only [ba2, ba0e]; congr 2; simp [encM, encF])
  clear hS0 zS0 hN zN hP0 zP0 hP1 zP1 hP2 zP2 hP3 zP3 h0 hI hO hW hK hkey
  go_enter Try.func11, Try.ntmps11
  iterate 17 go_step
  refine ld_op rfl (.tmp 1) rfl w.heap.size rfl _ hz0 rfl ?_
  simp only [Act.put, List.setIfInBounds_toArray, List.set_cons_zero, List.set_cons_succ]
  go_wp2_with fail
  refine (HCK.out _ hb0).mono ?_; rintro e w1 ⟨rfl, hb1⟩
  have hb11 := below_call hb0 hb1
  have hz1 := hp_below hb1 hz0
  have hc1 := hp_cell hz1
  clear hb1 hz0 hb0
  go_wp2_with fail
  refine (HS0.out _).mono ?_; rintro e w2 ⟨rfl, hb2⟩
  have hb22 := below_call hb11 hb2
  have hz2 := hp_below hb2 hz1
  have hc2 := hp_cell hz2
  clear hc1 hb2 hz1 hb11
  go_wp2_with fail
  refine (HN.out _).mono ?_; rintro e w3 ⟨rfl, hb3⟩
  have hb33 := below_call hb22 hb3
  have hz3 := hp_below hb3 hz2
  have hc3 := hp_cell hz3
  clear hc2 hb3 hz2 hb22
  go_wp2
  clear hc3
  have hzd := hp_below (below_drew (Below.refl w3.heap.size _)) hz3
  refine Ph.region_at (by kernel_rfl) ?_
  refine Ph.at_quiet 18 (by kernel_rfl) ?_
  simp only [List.take_succ_cons, List.take_zero, List.drop_succ_cons, List.drop_zero]
  repeat ((first | (apply Ph.wpPh_g; (focus (intro w1 hS0; have hc := hp_cell (hp_below hS0 hzd); go_simp; first | exact rfl | exact ⟨rfl, Below.refl _ _⟩ | ((with_reducible refine (HP0.out _).mono ?_); rintro e w2 ⟨rfl, hb⟩; exact ⟨rfl, hb⟩) | ((with_reducible refine (HP1.out _).mono ?_); rintro e w2 ⟨rfl, hb⟩; exact ⟨rfl, hb⟩) | ((with_reducible refine (HP2.out _).mono ?_); rintro e w2 ⟨rfl, hb⟩; exact ⟨rfl, hb⟩) | ((with_reducible refine (HP3.out _).mono ?_); rintro e w2 ⟨rfl, hb⟩; exact ⟨rfl, hb⟩))))); simp only [Act.put, List.setIfInBounds_toArray, List.set_cons_zero, List.set_cons_succ])
  refine Ph.wpPh_nil ?_; intro w9 hS
  refine Ph.at_end (by simp) ?_
  have hb99 := below_call hb33 (below_call (below_drew (Below.refl _ _)) hS)
  clear hS hzd hz3
  go_wp2
  go_ret2
  exact ⟨congrArg (fun v => Ending.returned (Value.tuple #[Value.string v, .int .i64 0])) HEQ.out, hb99⟩

end Go.Proofs.Ytiklpifaaogcpaa
