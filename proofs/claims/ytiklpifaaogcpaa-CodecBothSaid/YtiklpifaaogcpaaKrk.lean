/- The reference's Check. -/
import Derived.Test.YtiklpifaaogcpaaKro
import Derived.Test.YtiklpifaaogcpaaKsh
import Derived.Test.YtiklpifaaogcpaaKx
import Derived.WalkKit
import Derived.WalkLawsBesides
import Derived.WalkSpells
import Derived.Below
import Derived.Deep.RegionHeld3
import Derived.Deep.QuietTactic
import Derived.BigQuiet
import Derived.Deep.DeepCutAuto
import Derived.Deep.DeepMust
import Derived.KernelRfl
import Derived.Lib.Hide
import Derived.Outline
import Derived.RegionTactic
import Derived.StillTailTactics
import Derived.Laws.IdiomStrings
import Derived.Handy
namespace Go.Proofs.Ytiklpifaaogcpaa
open Go.RowKit Go.Cl Go.Wr Go.Kc
set_option maxRecDepth 100000
set_option linter.unusedVariables false
set_option linter.unusedSimpArgs false


theorem gv_ld {o : Oper} {a : Act} {w : World} {S : World → Prop} (x : Operand) (ho : o.op = .load 30 x) (g : Nat) (hx : a.eval x = .pointer (some ⟨g, 0, none⟩)) (cs : Array Value) {t : TypeId} {fr : Nat × Nat} (h : hp w g = some (.cells cs t fr)) (hs : cs.size = 16)
    (hr : S w) : Ph.givesV Try.prog o a w (.agg cs) S := by
  unfold Ph.givesV execOp
  simp only [ho, hx, Instr.loadAt, Instr.sureAddr, Sem.run_bind, Sem.run_pure, Result.andThen_ok, run_loadVar_mid w g 0 30 cs.toList _ (fun j v hv => by rw [Nat.zero_add, hp_cell h]; simpa using hv) Try.underlying30 rfl (by rw [info30]; simp [hs])]
  exact ⟨by simp, hr⟩
structure BaseM (m : Mg) : Prop where
  un : UnM m
  node : 0 ≤ m.node ∧ m.node ≤ 7
  ses : 0 ≤ m.ses ∧ m.ses ≤ 63
  tx : 0 ≤ m.tx ∧ m.tx ≤ 255
  err : 0 ≤ m.err ∧ m.err ≤ 255
  n0 : 0 ≤ m.n
  n1 : m.n ≤ 1099511627776
theorem okM_of {m : Mg} (h : BaseM m) (h1 : m.kind ≤ 6 → 1 ≤ m.seq ∧ m.seq ≤ 2147483647) (h2 : 10 ≤ m.kind → 1 ≤ m.inc ∧ m.inc ≤ 2147483647) (h3 : (m.kind = 8 ∨ m.kind = 9) → 1 ≤ m.n) (h4 : ThM m) : OkM m := ⟨h.un, ⟨h.node, h.ses, h.tx, h.err, ⟨h.n0, h.n1⟩, h1, h2, h3⟩, h4⟩
theorem base_of {m : Mg} (h : OkM m) : BaseM m := ⟨h.un, h.nu.node, h.nu.ses, h.nu.tx, h.nu.err, h.nu.n.1, h.nu.n.2⟩

set_option maxHeartbeats 4000000 in
theorem c_rcheckR (kind node inc ses tx seq lo hi err n : Int) (key data : ByteArray) (has hit : Bool) (W : List Wt) (K : List ByteArray) (wp kp : Option Addr) (wq kq : Nat) (w : World) (hW : LsW w wp wq W) (hK : LsS w kp kq K) (hWn : W.length ≤ 9223372036854775807) (hKn : K.length ≤ 9223372036854775807) :
    Calls Try.prog 13 #[.agg #[.int .i64 kind, .int .i64 node, .int .i64 inc, .int .i64 ses, .int .i64 tx, .int .i64 seq, .string key, .int .i64 lo, .int .i64 hi, .bool has, .string data, .bool hit, .int .i64 err, .int .i64 n, .slice wp W.length wq, .slice kp K.length kq]] w fun e w' => e = .returned (.int .i64 (chkM ⟨kind, node, inc, ses, tx, seq, key, lo, hi, has, data, hit, err, n, W, K⟩)) ∧ Below w.heap.size w w' := by
  have hb0 : Below w.heap.size w (w.alloc (.cells #[.int .i64 kind, .int .i64 node, .int .i64 inc, .int .i64 ses, .int .i64 tx, .int .i64 seq, .string key, .int .i64 lo, .int .i64 hi, .bool has, .string data, .bool hit, .int .i64 err, .int .i64 n, .slice wp W.length wq, .slice kp K.length kq] 30)) := below_alloc (Below.refl _ _) _
  have hz0 := hp_alloc_new w (.cells #[.int .i64 kind, .int .i64 node, .int .i64 inc, .int .i64 ses, .int .i64 tx, .int .i64 seq, .string key, .int .i64 lo, .int .i64 hi, .bool has, .string data, .bool hit, .int .i64 err, .int .i64 n, .slice wp W.length wq, .slice kp K.length kq] 30)
  have HK := Lib.hid (c_in kind 1 11 (w.alloc (.cells #[.int .i64 kind, .int .i64 node, .int .i64 inc, .int .i64 ses, .int .i64 tx, .int .i64 seq, .string key, .int .i64 lo, .int .i64 hi, .bool has, .string data, .bool hit, .int .i64 err, .int .i64 n, .slice wp W.length wq, .slice kp K.length kq] 30)))
  have HW := Lib.hid hW
  have HWn := Lib.hid hWn
  have HKK := Lib.hid hK
  have HKn := Lib.hid hKn
  clear hW hWn hK hKn
  by_cases hk : 1 ≤ kind ∧ kind ≤ 11
  rotate_left
  · have hd : decide (1 ≤ kind ∧ kind ≤ 11) = false := by rw [decide_eq_false_iff_not]; exact hk
    rw [hd] at HK
    have hc : chkM ⟨kind, node, inc, ses, tx, seq, key, lo, hi, has, data, hit, err, n, W, K⟩ = 13 := by unfold chkM; rw [if_neg hk]
    rw [hc]
    clear hd hc hk
    have hc0 := hp_cell hz0
    go_enter Try.func13, Try.ntmps13
    go_wp2_with fail
    refine HK.out.mono ?_; rintro e w1 ⟨rfl, rfl⟩
    go_wp2
    go_ret
    exact ⟨rfl, hb0⟩
  have hd : decide (1 ≤ kind ∧ kind ≤ 11) = true := by rw [decide_eq_true_eq]; exact hk
  rw [hd] at HK
  clear hd
  obtain ⟨B, wpb, wqb, kpb, kqb, hBi, hBW, hBK, hBC⟩ := c_only ⟨kind, node, inc, ses, tx, seq, key, lo, hi, has, data, hit, err, n, W, K⟩ hk wp wq kp kq
  have HBC := Lib.hid (And.intro hBi (And.intro hBW (And.intro hBK hBC)))
  clear hBi hBW hBK hBC
  have HC33 : Hid (∀ W', Calls Try.prog 33 #[.agg #[.int .i64 kind, .int .i64 node, .int .i64 inc, .int .i64 ses, .int .i64 tx, .int .i64 seq, .string key, .int .i64 lo, .int .i64 hi, .bool has, .string data, .bool hit, .int .i64 err, .int .i64 n, .slice wp W.length wq, .slice kp K.length kq]] W' fun e w' => e = .returned (.agg (B.cs wpb wqb kpb kqb)) ∧ Below W'.heap.size W' w') := Lib.hid HBC.out.2.2.2
  have hc0 := hp_cell hz0
  go_enter Try.func13, Try.ntmps13
  go_wp2_with fail
  refine HK.out.mono ?_; rintro e w1 ⟨rfl, rfl⟩
  dsimp only
  iterate 20 go_step
  go_cut [1, 2, 3, 4] (fun s1 s2 s3 s4 W0 => s1 = .pointer (some ⟨w.heap.size, 0, none⟩) ∧ s2 = .int .i64 0 ∧ s3 = .int .i64 2147483647 ∧ ∃ b : Bool, s4 = .bool b ∧ (b = true ↔ BaseM ⟨kind, node, inc, ses, tx, seq, key, lo, hi, has, data, hit, err, n, W, K⟩) ∧ hp W0 w.heap.size = some (.cells #[.int .i64 kind, .int .i64 node, .int .i64 inc, .int .i64 ses, .int .i64 tx, .int .i64 seq, .string key, .int .i64 lo, .int .i64 hi, .bool has, .string data, .bool hit, .int .i64 err, .int .i64 n, .slice wp W.length wq, .slice kp K.length kq] 30 (0, 0)) ∧ Below w.heap.size w W0)
  case first =>
    by_cases hun : UnM ⟨kind, node, inc, ses, tx, seq, key, lo, hi, has, data, hit, err, n, W, K⟩
    rotate_left
    · replace hun := Lib.hid hun
      refine Ph.wp_region_gr 3 3 [] (by kernel_rfl) (by kernel_rfl) (fun _ d _ _ _ h => by cases d <;> exact h) ?_
      simp only [List.take_succ_cons, List.take_zero, List.drop_succ_cons, List.drop_zero]
      apply Ph.wpG_op rfl; (focus (intro w1 hS0; rw [if_pos (by rfl)]; exact gv_ld (.tmp 1) rfl w.heap.size rfl _ (hp_below hS0 hz0) rfl (Below.refl _ _))); simp only [List.tail_cons, List.tail_nil, Act.put, List.setIfInBounds_toArray, List.set_cons_zero, List.set_cons_succ]
      apply Ph.wpG_op rfl; (focus (intro w1 hS0; rw [if_pos (by rfl)]; exact gv_ld (.tmp 1) rfl w.heap.size rfl _ (hp_below hS0 hz0) rfl (Below.refl _ _))); simp only [List.tail_cons, List.tail_nil, Act.put, List.setIfInBounds_toArray, List.set_cons_zero, List.set_cons_succ]
      apply Ph.wpG_op rfl; (focus (intro w1 hS0; go_simp; (with_reducible refine (HC33.out _).mono ?_); rintro e w2 ⟨rfl, hb⟩; exact ⟨rfl, hb⟩)); simp only [List.tail_cons, List.tail_nil, Act.put, List.setIfInBounds_toArray, List.set_cons_zero, List.set_cons_succ]
      refine Ph.wpG_nil ?_
      refine Ph.wpAl_nil ?_; intro w2 hS hgs hne
      clear hgs hne
      have hb2 := below_call hb0 hS
      have hz2 := hp_below hS hz0
      clear hc0
      have hb33 := hb2
      have hz3 := hz2
      go_wp2_with fail
      refine (c_same _ ⟨kind, node, inc, ses, tx, seq, key, lo, hi, has, data, hit, err, n, W, K⟩ B wp kp wpb kpb wq kq wqb kqb (HW.out.below hb33) (HKK.out.below hb33) (HBC.out.2.1 _ (HW.out.below hb33)) (HBC.out.2.2.1 _ (HKK.out.below hb33))).mono ?_
      rintro e w4 ⟨b, rfl, hb, hb4⟩
      have hb44 := below_call hb33 hb4
      have hz4 := hp_below hb4 hz3
      have hc4 := hp_cell hz4
      clear hb33 hz3 hb2 hS hz2 hb4
      obtain rfl : b = false := by have h1 := hb.trans HBC.out.1; cases b; rfl; exact absurd (h1.1 rfl) hun.out
      clear hb
      go_wp2
      all_goals go_meet
      all_goals exact ⟨rfl, rfl, rfl, _, rfl, by first | exact ⟨fun h => by cases h, fun h => absurd h.un hun.out⟩ | exact ⟨fun h => by simp at h <;> omega, fun h => absurd h.un hun.out⟩, hz4, hb44⟩
    by_cases hnode : 0 ≤ node ∧ node ≤ 7
    rotate_left
    · have Hnode := Lib.hid (show ∀ W', Calls Try.prog 32 #[.int .i64 node, .int .i64 0, .int .i64 7] W' fun e w' => e = .returned (.bool false) ∧ W' = w' from fun W' => by have := c_in node 0 7 W'; rwa [show decide (0 ≤ node ∧ node ≤ 7) = false from by simp [hnode]] at this)
      replace hun := Lib.hid hun
      replace hnode := Lib.hid hnode
      refine Ph.wp_region_gr 3 3 [] (by kernel_rfl) (by kernel_rfl) (fun _ d _ _ _ h => by cases d <;> exact h) ?_
      simp only [List.take_succ_cons, List.take_zero, List.drop_succ_cons, List.drop_zero]
      apply Ph.wpG_op rfl; (focus (intro w1 hS0; rw [if_pos (by rfl)]; exact gv_ld (.tmp 1) rfl w.heap.size rfl _ (hp_below hS0 hz0) rfl (Below.refl _ _))); simp only [List.tail_cons, List.tail_nil, Act.put, List.setIfInBounds_toArray, List.set_cons_zero, List.set_cons_succ]
      apply Ph.wpG_op rfl; (focus (intro w1 hS0; rw [if_pos (by rfl)]; exact gv_ld (.tmp 1) rfl w.heap.size rfl _ (hp_below hS0 hz0) rfl (Below.refl _ _))); simp only [List.tail_cons, List.tail_nil, Act.put, List.setIfInBounds_toArray, List.set_cons_zero, List.set_cons_succ]
      apply Ph.wpG_op rfl; (focus (intro w1 hS0; go_simp; (with_reducible refine (HC33.out _).mono ?_); rintro e w2 ⟨rfl, hb⟩; exact ⟨rfl, hb⟩)); simp only [List.tail_cons, List.tail_nil, Act.put, List.setIfInBounds_toArray, List.set_cons_zero, List.set_cons_succ]
      refine Ph.wpG_nil ?_
      refine Ph.wpAl_nil ?_; intro w2 hS hgs hne
      clear hgs hne
      have hb2 := below_call hb0 hS
      have hz2 := hp_below hS hz0
      clear hc0
      have hb33 := hb2
      have hz3 := hz2
      go_wp2_with fail
      refine (c_same _ ⟨kind, node, inc, ses, tx, seq, key, lo, hi, has, data, hit, err, n, W, K⟩ B wp kp wpb kpb wq kq wqb kqb (HW.out.below hb33) (HKK.out.below hb33) (HBC.out.2.1 _ (HW.out.below hb33)) (HBC.out.2.2.1 _ (HKK.out.below hb33))).mono ?_
      rintro e w4 ⟨b, rfl, hb, hb4⟩
      have hb44 := below_call hb33 hb4
      have hz4 := hp_below hb4 hz3
      have hc4 := hp_cell hz4
      clear hb33 hz3 hb2 hS hz2 hb4
      obtain rfl : b = true := by have h1 := hb.trans HBC.out.1; exact h1.2 hun.out
      clear hb
      go_wp2_with fail
      refine (Hnode.out _).mono ?_; rintro e w5 ⟨rfl, rfl⟩
      go_wp2
      all_goals go_meet
      all_goals exact ⟨rfl, rfl, rfl, _, rfl, by first | exact ⟨fun h => by cases h, fun h => absurd h.node hnode.out⟩ | exact ⟨fun h => by simp at h <;> omega, fun h => absurd h.node hnode.out⟩, hz4, hb44⟩
    by_cases hses : 0 ≤ ses ∧ ses ≤ 63
    rotate_left
    · have Hnode := Lib.hid (show ∀ W', Calls Try.prog 32 #[.int .i64 node, .int .i64 0, .int .i64 7] W' fun e w' => e = .returned (.bool true) ∧ W' = w' from fun W' => by have := c_in node 0 7 W'; rwa [show decide (0 ≤ node ∧ node ≤ 7) = true from by simp [hnode]] at this)
      have Hses := Lib.hid (show ∀ W', Calls Try.prog 32 #[.int .i64 ses, .int .i64 0, .int .i64 63] W' fun e w' => e = .returned (.bool false) ∧ W' = w' from fun W' => by have := c_in ses 0 63 W'; rwa [show decide (0 ≤ ses ∧ ses ≤ 63) = false from by simp [hses]] at this)
      replace hun := Lib.hid hun
      replace hnode := Lib.hid hnode
      replace hses := Lib.hid hses
      refine Ph.wp_region_gr 3 3 [] (by kernel_rfl) (by kernel_rfl) (fun _ d _ _ _ h => by cases d <;> exact h) ?_
      simp only [List.take_succ_cons, List.take_zero, List.drop_succ_cons, List.drop_zero]
      apply Ph.wpG_op rfl; (focus (intro w1 hS0; rw [if_pos (by rfl)]; exact gv_ld (.tmp 1) rfl w.heap.size rfl _ (hp_below hS0 hz0) rfl (Below.refl _ _))); simp only [List.tail_cons, List.tail_nil, Act.put, List.setIfInBounds_toArray, List.set_cons_zero, List.set_cons_succ]
      apply Ph.wpG_op rfl; (focus (intro w1 hS0; rw [if_pos (by rfl)]; exact gv_ld (.tmp 1) rfl w.heap.size rfl _ (hp_below hS0 hz0) rfl (Below.refl _ _))); simp only [List.tail_cons, List.tail_nil, Act.put, List.setIfInBounds_toArray, List.set_cons_zero, List.set_cons_succ]
      apply Ph.wpG_op rfl; (focus (intro w1 hS0; go_simp; (with_reducible refine (HC33.out _).mono ?_); rintro e w2 ⟨rfl, hb⟩; exact ⟨rfl, hb⟩)); simp only [List.tail_cons, List.tail_nil, Act.put, List.setIfInBounds_toArray, List.set_cons_zero, List.set_cons_succ]
      refine Ph.wpG_nil ?_
      refine Ph.wpAl_nil ?_; intro w2 hS hgs hne
      clear hgs hne
      have hb2 := below_call hb0 hS
      have hz2 := hp_below hS hz0
      clear hc0
      have hb33 := hb2
      have hz3 := hz2
      go_wp2_with fail
      refine (c_same _ ⟨kind, node, inc, ses, tx, seq, key, lo, hi, has, data, hit, err, n, W, K⟩ B wp kp wpb kpb wq kq wqb kqb (HW.out.below hb33) (HKK.out.below hb33) (HBC.out.2.1 _ (HW.out.below hb33)) (HBC.out.2.2.1 _ (HKK.out.below hb33))).mono ?_
      rintro e w4 ⟨b, rfl, hb, hb4⟩
      have hb44 := below_call hb33 hb4
      have hz4 := hp_below hb4 hz3
      have hc4 := hp_cell hz4
      clear hb33 hz3 hb2 hS hz2 hb4
      obtain rfl : b = true := by have h1 := hb.trans HBC.out.1; exact h1.2 hun.out
      clear hb
      go_wp2_with fail
      refine (Hnode.out _).mono ?_; rintro e w5 ⟨rfl, rfl⟩
      go_wp2_with fail
      refine (Hses.out _).mono ?_; rintro e w5 ⟨rfl, rfl⟩
      go_wp2
      all_goals go_meet
      all_goals exact ⟨rfl, rfl, rfl, _, rfl, by first | exact ⟨fun h => by cases h, fun h => absurd h.ses hses.out⟩ | exact ⟨fun h => by simp at h <;> omega, fun h => absurd h.ses hses.out⟩, hz4, hb44⟩
    by_cases htx : 0 ≤ tx ∧ tx ≤ 255
    rotate_left
    · have Hnode := Lib.hid (show ∀ W', Calls Try.prog 32 #[.int .i64 node, .int .i64 0, .int .i64 7] W' fun e w' => e = .returned (.bool true) ∧ W' = w' from fun W' => by have := c_in node 0 7 W'; rwa [show decide (0 ≤ node ∧ node ≤ 7) = true from by simp [hnode]] at this)
      have Hses := Lib.hid (show ∀ W', Calls Try.prog 32 #[.int .i64 ses, .int .i64 0, .int .i64 63] W' fun e w' => e = .returned (.bool true) ∧ W' = w' from fun W' => by have := c_in ses 0 63 W'; rwa [show decide (0 ≤ ses ∧ ses ≤ 63) = true from by simp [hses]] at this)
      have Htx := Lib.hid (show ∀ W', Calls Try.prog 32 #[.int .i64 tx, .int .i64 0, .int .i64 255] W' fun e w' => e = .returned (.bool false) ∧ W' = w' from fun W' => by have := c_in tx 0 255 W'; rwa [show decide (0 ≤ tx ∧ tx ≤ 255) = false from by simp [htx]] at this)
      replace hun := Lib.hid hun
      replace hnode := Lib.hid hnode
      replace hses := Lib.hid hses
      replace htx := Lib.hid htx
      refine Ph.wp_region_gr 3 3 [] (by kernel_rfl) (by kernel_rfl) (fun _ d _ _ _ h => by cases d <;> exact h) ?_
      simp only [List.take_succ_cons, List.take_zero, List.drop_succ_cons, List.drop_zero]
      apply Ph.wpG_op rfl; (focus (intro w1 hS0; rw [if_pos (by rfl)]; exact gv_ld (.tmp 1) rfl w.heap.size rfl _ (hp_below hS0 hz0) rfl (Below.refl _ _))); simp only [List.tail_cons, List.tail_nil, Act.put, List.setIfInBounds_toArray, List.set_cons_zero, List.set_cons_succ]
      apply Ph.wpG_op rfl; (focus (intro w1 hS0; rw [if_pos (by rfl)]; exact gv_ld (.tmp 1) rfl w.heap.size rfl _ (hp_below hS0 hz0) rfl (Below.refl _ _))); simp only [List.tail_cons, List.tail_nil, Act.put, List.setIfInBounds_toArray, List.set_cons_zero, List.set_cons_succ]
      apply Ph.wpG_op rfl; (focus (intro w1 hS0; go_simp; (with_reducible refine (HC33.out _).mono ?_); rintro e w2 ⟨rfl, hb⟩; exact ⟨rfl, hb⟩)); simp only [List.tail_cons, List.tail_nil, Act.put, List.setIfInBounds_toArray, List.set_cons_zero, List.set_cons_succ]
      refine Ph.wpG_nil ?_
      refine Ph.wpAl_nil ?_; intro w2 hS hgs hne
      clear hgs hne
      have hb2 := below_call hb0 hS
      have hz2 := hp_below hS hz0
      clear hc0
      have hb33 := hb2
      have hz3 := hz2
      go_wp2_with fail
      refine (c_same _ ⟨kind, node, inc, ses, tx, seq, key, lo, hi, has, data, hit, err, n, W, K⟩ B wp kp wpb kpb wq kq wqb kqb (HW.out.below hb33) (HKK.out.below hb33) (HBC.out.2.1 _ (HW.out.below hb33)) (HBC.out.2.2.1 _ (HKK.out.below hb33))).mono ?_
      rintro e w4 ⟨b, rfl, hb, hb4⟩
      have hb44 := below_call hb33 hb4
      have hz4 := hp_below hb4 hz3
      have hc4 := hp_cell hz4
      clear hb33 hz3 hb2 hS hz2 hb4
      obtain rfl : b = true := by have h1 := hb.trans HBC.out.1; exact h1.2 hun.out
      clear hb
      go_wp2_with fail
      refine (Hnode.out _).mono ?_; rintro e w5 ⟨rfl, rfl⟩
      go_wp2_with fail
      refine (Hses.out _).mono ?_; rintro e w5 ⟨rfl, rfl⟩
      go_wp2_with fail
      refine (Htx.out _).mono ?_; rintro e w5 ⟨rfl, rfl⟩
      go_wp2
      all_goals go_meet
      all_goals exact ⟨rfl, rfl, rfl, _, rfl, by first | exact ⟨fun h => by cases h, fun h => absurd h.tx htx.out⟩ | exact ⟨fun h => by simp at h <;> omega, fun h => absurd h.tx htx.out⟩, hz4, hb44⟩
    by_cases herr : 0 ≤ err ∧ err ≤ 255
    rotate_left
    · have Hnode := Lib.hid (show ∀ W', Calls Try.prog 32 #[.int .i64 node, .int .i64 0, .int .i64 7] W' fun e w' => e = .returned (.bool true) ∧ W' = w' from fun W' => by have := c_in node 0 7 W'; rwa [show decide (0 ≤ node ∧ node ≤ 7) = true from by simp [hnode]] at this)
      have Hses := Lib.hid (show ∀ W', Calls Try.prog 32 #[.int .i64 ses, .int .i64 0, .int .i64 63] W' fun e w' => e = .returned (.bool true) ∧ W' = w' from fun W' => by have := c_in ses 0 63 W'; rwa [show decide (0 ≤ ses ∧ ses ≤ 63) = true from by simp [hses]] at this)
      have Htx := Lib.hid (show ∀ W', Calls Try.prog 32 #[.int .i64 tx, .int .i64 0, .int .i64 255] W' fun e w' => e = .returned (.bool true) ∧ W' = w' from fun W' => by have := c_in tx 0 255 W'; rwa [show decide (0 ≤ tx ∧ tx ≤ 255) = true from by simp [htx]] at this)
      have Herr := Lib.hid (show ∀ W', Calls Try.prog 32 #[.int .i64 err, .int .i64 0, .int .i64 255] W' fun e w' => e = .returned (.bool false) ∧ W' = w' from fun W' => by have := c_in err 0 255 W'; rwa [show decide (0 ≤ err ∧ err ≤ 255) = false from by simp [herr]] at this)
      replace hun := Lib.hid hun
      replace hnode := Lib.hid hnode
      replace hses := Lib.hid hses
      replace htx := Lib.hid htx
      replace herr := Lib.hid herr
      refine Ph.wp_region_gr 3 3 [] (by kernel_rfl) (by kernel_rfl) (fun _ d _ _ _ h => by cases d <;> exact h) ?_
      simp only [List.take_succ_cons, List.take_zero, List.drop_succ_cons, List.drop_zero]
      apply Ph.wpG_op rfl; (focus (intro w1 hS0; rw [if_pos (by rfl)]; exact gv_ld (.tmp 1) rfl w.heap.size rfl _ (hp_below hS0 hz0) rfl (Below.refl _ _))); simp only [List.tail_cons, List.tail_nil, Act.put, List.setIfInBounds_toArray, List.set_cons_zero, List.set_cons_succ]
      apply Ph.wpG_op rfl; (focus (intro w1 hS0; rw [if_pos (by rfl)]; exact gv_ld (.tmp 1) rfl w.heap.size rfl _ (hp_below hS0 hz0) rfl (Below.refl _ _))); simp only [List.tail_cons, List.tail_nil, Act.put, List.setIfInBounds_toArray, List.set_cons_zero, List.set_cons_succ]
      apply Ph.wpG_op rfl; (focus (intro w1 hS0; go_simp; (with_reducible refine (HC33.out _).mono ?_); rintro e w2 ⟨rfl, hb⟩; exact ⟨rfl, hb⟩)); simp only [List.tail_cons, List.tail_nil, Act.put, List.setIfInBounds_toArray, List.set_cons_zero, List.set_cons_succ]
      refine Ph.wpG_nil ?_
      refine Ph.wpAl_nil ?_; intro w2 hS hgs hne
      clear hgs hne
      have hb2 := below_call hb0 hS
      have hz2 := hp_below hS hz0
      clear hc0
      have hb33 := hb2
      have hz3 := hz2
      go_wp2_with fail
      refine (c_same _ ⟨kind, node, inc, ses, tx, seq, key, lo, hi, has, data, hit, err, n, W, K⟩ B wp kp wpb kpb wq kq wqb kqb (HW.out.below hb33) (HKK.out.below hb33) (HBC.out.2.1 _ (HW.out.below hb33)) (HBC.out.2.2.1 _ (HKK.out.below hb33))).mono ?_
      rintro e w4 ⟨b, rfl, hb, hb4⟩
      have hb44 := below_call hb33 hb4
      have hz4 := hp_below hb4 hz3
      have hc4 := hp_cell hz4
      clear hb33 hz3 hb2 hS hz2 hb4
      obtain rfl : b = true := by have h1 := hb.trans HBC.out.1; exact h1.2 hun.out
      clear hb
      go_wp2_with fail
      refine (Hnode.out _).mono ?_; rintro e w5 ⟨rfl, rfl⟩
      go_wp2_with fail
      refine (Hses.out _).mono ?_; rintro e w5 ⟨rfl, rfl⟩
      go_wp2_with fail
      refine (Htx.out _).mono ?_; rintro e w5 ⟨rfl, rfl⟩
      go_wp2_with fail
      refine (Herr.out _).mono ?_; rintro e w5 ⟨rfl, rfl⟩
      go_wp2
      all_goals go_meet
      all_goals exact ⟨rfl, rfl, rfl, _, rfl, by first | exact ⟨fun h => by cases h, fun h => absurd h.err herr.out⟩ | exact ⟨fun h => by simp at h <;> omega, fun h => absurd h.err herr.out⟩, hz4, hb44⟩
    by_cases hn0 : 0 ≤ n
    rotate_left
    · have Hnode := Lib.hid (show ∀ W', Calls Try.prog 32 #[.int .i64 node, .int .i64 0, .int .i64 7] W' fun e w' => e = .returned (.bool true) ∧ W' = w' from fun W' => by have := c_in node 0 7 W'; rwa [show decide (0 ≤ node ∧ node ≤ 7) = true from by simp [hnode]] at this)
      have Hses := Lib.hid (show ∀ W', Calls Try.prog 32 #[.int .i64 ses, .int .i64 0, .int .i64 63] W' fun e w' => e = .returned (.bool true) ∧ W' = w' from fun W' => by have := c_in ses 0 63 W'; rwa [show decide (0 ≤ ses ∧ ses ≤ 63) = true from by simp [hses]] at this)
      have Htx := Lib.hid (show ∀ W', Calls Try.prog 32 #[.int .i64 tx, .int .i64 0, .int .i64 255] W' fun e w' => e = .returned (.bool true) ∧ W' = w' from fun W' => by have := c_in tx 0 255 W'; rwa [show decide (0 ≤ tx ∧ tx ≤ 255) = true from by simp [htx]] at this)
      have Herr := Lib.hid (show ∀ W', Calls Try.prog 32 #[.int .i64 err, .int .i64 0, .int .i64 255] W' fun e w' => e = .returned (.bool true) ∧ W' = w' from fun W' => by have := c_in err 0 255 W'; rwa [show decide (0 ≤ err ∧ err ≤ 255) = true from by simp [herr]] at this)
      replace hun := Lib.hid hun
      replace hnode := Lib.hid hnode
      replace hses := Lib.hid hses
      replace htx := Lib.hid htx
      replace herr := Lib.hid herr
      refine Ph.wp_region_gr 3 3 [] (by kernel_rfl) (by kernel_rfl) (fun _ d _ _ _ h => by cases d <;> exact h) ?_
      simp only [List.take_succ_cons, List.take_zero, List.drop_succ_cons, List.drop_zero]
      apply Ph.wpG_op rfl; (focus (intro w1 hS0; rw [if_pos (by rfl)]; exact gv_ld (.tmp 1) rfl w.heap.size rfl _ (hp_below hS0 hz0) rfl (Below.refl _ _))); simp only [List.tail_cons, List.tail_nil, Act.put, List.setIfInBounds_toArray, List.set_cons_zero, List.set_cons_succ]
      apply Ph.wpG_op rfl; (focus (intro w1 hS0; rw [if_pos (by rfl)]; exact gv_ld (.tmp 1) rfl w.heap.size rfl _ (hp_below hS0 hz0) rfl (Below.refl _ _))); simp only [List.tail_cons, List.tail_nil, Act.put, List.setIfInBounds_toArray, List.set_cons_zero, List.set_cons_succ]
      apply Ph.wpG_op rfl; (focus (intro w1 hS0; go_simp; (with_reducible refine (HC33.out _).mono ?_); rintro e w2 ⟨rfl, hb⟩; exact ⟨rfl, hb⟩)); simp only [List.tail_cons, List.tail_nil, Act.put, List.setIfInBounds_toArray, List.set_cons_zero, List.set_cons_succ]
      refine Ph.wpG_nil ?_
      refine Ph.wpAl_nil ?_; intro w2 hS hgs hne
      clear hgs hne
      have hb2 := below_call hb0 hS
      have hz2 := hp_below hS hz0
      clear hc0
      have hb33 := hb2
      have hz3 := hz2
      go_wp2_with fail
      refine (c_same _ ⟨kind, node, inc, ses, tx, seq, key, lo, hi, has, data, hit, err, n, W, K⟩ B wp kp wpb kpb wq kq wqb kqb (HW.out.below hb33) (HKK.out.below hb33) (HBC.out.2.1 _ (HW.out.below hb33)) (HBC.out.2.2.1 _ (HKK.out.below hb33))).mono ?_
      rintro e w4 ⟨b, rfl, hb, hb4⟩
      have hb44 := below_call hb33 hb4
      have hz4 := hp_below hb4 hz3
      have hc4 := hp_cell hz4
      clear hb33 hz3 hb2 hS hz2 hb4
      obtain rfl : b = true := by have h1 := hb.trans HBC.out.1; exact h1.2 hun.out
      clear hb
      go_wp2_with fail
      refine (Hnode.out _).mono ?_; rintro e w5 ⟨rfl, rfl⟩
      go_wp2_with fail
      refine (Hses.out _).mono ?_; rintro e w5 ⟨rfl, rfl⟩
      go_wp2_with fail
      refine (Htx.out _).mono ?_; rintro e w5 ⟨rfl, rfl⟩
      go_wp2_with fail
      refine (Herr.out _).mono ?_; rintro e w5 ⟨rfl, rfl⟩
      go_wp2
      all_goals go_meet
      all_goals exact ⟨rfl, rfl, rfl, _, rfl, by first | exact ⟨fun h => by cases h, fun h => absurd h.n0 (by show ¬ (0 ≤ n); omega)⟩ | exact ⟨fun h => by simp at h <;> omega, fun h => absurd h.n0 (by show ¬ (0 ≤ n); omega)⟩, hz4, hb44⟩
    by_cases hn1 : n ≤ 1099511627776
    rotate_left
    · have Hnode := Lib.hid (show ∀ W', Calls Try.prog 32 #[.int .i64 node, .int .i64 0, .int .i64 7] W' fun e w' => e = .returned (.bool true) ∧ W' = w' from fun W' => by have := c_in node 0 7 W'; rwa [show decide (0 ≤ node ∧ node ≤ 7) = true from by simp [hnode]] at this)
      have Hses := Lib.hid (show ∀ W', Calls Try.prog 32 #[.int .i64 ses, .int .i64 0, .int .i64 63] W' fun e w' => e = .returned (.bool true) ∧ W' = w' from fun W' => by have := c_in ses 0 63 W'; rwa [show decide (0 ≤ ses ∧ ses ≤ 63) = true from by simp [hses]] at this)
      have Htx := Lib.hid (show ∀ W', Calls Try.prog 32 #[.int .i64 tx, .int .i64 0, .int .i64 255] W' fun e w' => e = .returned (.bool true) ∧ W' = w' from fun W' => by have := c_in tx 0 255 W'; rwa [show decide (0 ≤ tx ∧ tx ≤ 255) = true from by simp [htx]] at this)
      have Herr := Lib.hid (show ∀ W', Calls Try.prog 32 #[.int .i64 err, .int .i64 0, .int .i64 255] W' fun e w' => e = .returned (.bool true) ∧ W' = w' from fun W' => by have := c_in err 0 255 W'; rwa [show decide (0 ≤ err ∧ err ≤ 255) = true from by simp [herr]] at this)
      replace hun := Lib.hid hun
      replace hnode := Lib.hid hnode
      replace hses := Lib.hid hses
      replace htx := Lib.hid htx
      replace herr := Lib.hid herr
      refine Ph.wp_region_gr 3 3 [] (by kernel_rfl) (by kernel_rfl) (fun _ d _ _ _ h => by cases d <;> exact h) ?_
      simp only [List.take_succ_cons, List.take_zero, List.drop_succ_cons, List.drop_zero]
      apply Ph.wpG_op rfl; (focus (intro w1 hS0; rw [if_pos (by rfl)]; exact gv_ld (.tmp 1) rfl w.heap.size rfl _ (hp_below hS0 hz0) rfl (Below.refl _ _))); simp only [List.tail_cons, List.tail_nil, Act.put, List.setIfInBounds_toArray, List.set_cons_zero, List.set_cons_succ]
      apply Ph.wpG_op rfl; (focus (intro w1 hS0; rw [if_pos (by rfl)]; exact gv_ld (.tmp 1) rfl w.heap.size rfl _ (hp_below hS0 hz0) rfl (Below.refl _ _))); simp only [List.tail_cons, List.tail_nil, Act.put, List.setIfInBounds_toArray, List.set_cons_zero, List.set_cons_succ]
      apply Ph.wpG_op rfl; (focus (intro w1 hS0; go_simp; (with_reducible refine (HC33.out _).mono ?_); rintro e w2 ⟨rfl, hb⟩; exact ⟨rfl, hb⟩)); simp only [List.tail_cons, List.tail_nil, Act.put, List.setIfInBounds_toArray, List.set_cons_zero, List.set_cons_succ]
      refine Ph.wpG_nil ?_
      refine Ph.wpAl_nil ?_; intro w2 hS hgs hne
      clear hgs hne
      have hb2 := below_call hb0 hS
      have hz2 := hp_below hS hz0
      clear hc0
      have hb33 := hb2
      have hz3 := hz2
      go_wp2_with fail
      refine (c_same _ ⟨kind, node, inc, ses, tx, seq, key, lo, hi, has, data, hit, err, n, W, K⟩ B wp kp wpb kpb wq kq wqb kqb (HW.out.below hb33) (HKK.out.below hb33) (HBC.out.2.1 _ (HW.out.below hb33)) (HBC.out.2.2.1 _ (HKK.out.below hb33))).mono ?_
      rintro e w4 ⟨b, rfl, hb, hb4⟩
      have hb44 := below_call hb33 hb4
      have hz4 := hp_below hb4 hz3
      have hc4 := hp_cell hz4
      clear hb33 hz3 hb2 hS hz2 hb4
      obtain rfl : b = true := by have h1 := hb.trans HBC.out.1; exact h1.2 hun.out
      clear hb
      go_wp2_with fail
      refine (Hnode.out _).mono ?_; rintro e w5 ⟨rfl, rfl⟩
      go_wp2_with fail
      refine (Hses.out _).mono ?_; rintro e w5 ⟨rfl, rfl⟩
      go_wp2_with fail
      refine (Htx.out _).mono ?_; rintro e w5 ⟨rfl, rfl⟩
      go_wp2_with fail
      refine (Herr.out _).mono ?_; rintro e w5 ⟨rfl, rfl⟩
      go_wp2
      all_goals go_meet
      all_goals exact ⟨rfl, rfl, rfl, _, rfl, by first | exact ⟨fun h => by cases h, fun h => absurd h.n1 (by show ¬ (n ≤ 1099511627776); omega)⟩ | exact ⟨fun h => by simp at h <;> omega, fun h => absurd h.n1 (by show ¬ (n ≤ 1099511627776); omega)⟩, hz4, hb44⟩
    have Hnode := Lib.hid (show ∀ W', Calls Try.prog 32 #[.int .i64 node, .int .i64 0, .int .i64 7] W' fun e w' => e = .returned (.bool true) ∧ W' = w' from fun W' => by have := c_in node 0 7 W'; rwa [show decide (0 ≤ node ∧ node ≤ 7) = true from by simp [hnode]] at this)
    have Hses := Lib.hid (show ∀ W', Calls Try.prog 32 #[.int .i64 ses, .int .i64 0, .int .i64 63] W' fun e w' => e = .returned (.bool true) ∧ W' = w' from fun W' => by have := c_in ses 0 63 W'; rwa [show decide (0 ≤ ses ∧ ses ≤ 63) = true from by simp [hses]] at this)
    have Htx := Lib.hid (show ∀ W', Calls Try.prog 32 #[.int .i64 tx, .int .i64 0, .int .i64 255] W' fun e w' => e = .returned (.bool true) ∧ W' = w' from fun W' => by have := c_in tx 0 255 W'; rwa [show decide (0 ≤ tx ∧ tx ≤ 255) = true from by simp [htx]] at this)
    have Herr := Lib.hid (show ∀ W', Calls Try.prog 32 #[.int .i64 err, .int .i64 0, .int .i64 255] W' fun e w' => e = .returned (.bool true) ∧ W' = w' from fun W' => by have := c_in err 0 255 W'; rwa [show decide (0 ≤ err ∧ err ≤ 255) = true from by simp [herr]] at this)
    replace hun := Lib.hid hun
    replace hnode := Lib.hid hnode
    replace hses := Lib.hid hses
    replace htx := Lib.hid htx
    replace herr := Lib.hid herr
    refine Ph.wp_region_gr 3 3 [] (by kernel_rfl) (by kernel_rfl) (fun _ d _ _ _ h => by cases d <;> exact h) ?_
    simp only [List.take_succ_cons, List.take_zero, List.drop_succ_cons, List.drop_zero]
    apply Ph.wpG_op rfl; (focus (intro w1 hS0; rw [if_pos (by rfl)]; exact gv_ld (.tmp 1) rfl w.heap.size rfl _ (hp_below hS0 hz0) rfl (Below.refl _ _))); simp only [List.tail_cons, List.tail_nil, Act.put, List.setIfInBounds_toArray, List.set_cons_zero, List.set_cons_succ]
    apply Ph.wpG_op rfl; (focus (intro w1 hS0; rw [if_pos (by rfl)]; exact gv_ld (.tmp 1) rfl w.heap.size rfl _ (hp_below hS0 hz0) rfl (Below.refl _ _))); simp only [List.tail_cons, List.tail_nil, Act.put, List.setIfInBounds_toArray, List.set_cons_zero, List.set_cons_succ]
    apply Ph.wpG_op rfl; (focus (intro w1 hS0; go_simp; (with_reducible refine (HC33.out _).mono ?_); rintro e w2 ⟨rfl, hb⟩; exact ⟨rfl, hb⟩)); simp only [List.tail_cons, List.tail_nil, Act.put, List.setIfInBounds_toArray, List.set_cons_zero, List.set_cons_succ]
    refine Ph.wpG_nil ?_
    refine Ph.wpAl_nil ?_; intro w2 hS hgs hne
    clear hgs hne
    have hb2 := below_call hb0 hS
    have hz2 := hp_below hS hz0
    clear hc0
    have hb33 := hb2
    have hz3 := hz2
    go_wp2_with fail
    refine (c_same _ ⟨kind, node, inc, ses, tx, seq, key, lo, hi, has, data, hit, err, n, W, K⟩ B wp kp wpb kpb wq kq wqb kqb (HW.out.below hb33) (HKK.out.below hb33) (HBC.out.2.1 _ (HW.out.below hb33)) (HBC.out.2.2.1 _ (HKK.out.below hb33))).mono ?_
    rintro e w4 ⟨b, rfl, hb, hb4⟩
    have hb44 := below_call hb33 hb4
    have hz4 := hp_below hb4 hz3
    have hc4 := hp_cell hz4
    clear hb33 hz3 hb2 hS hz2 hb4
    obtain rfl : b = true := by have h1 := hb.trans HBC.out.1; exact h1.2 hun.out
    clear hb
    go_wp2_with fail
    refine (Hnode.out _).mono ?_; rintro e w5 ⟨rfl, rfl⟩
    go_wp2_with fail
    refine (Hses.out _).mono ?_; rintro e w5 ⟨rfl, rfl⟩
    go_wp2_with fail
    refine (Htx.out _).mono ?_; rintro e w5 ⟨rfl, rfl⟩
    go_wp2_with fail
    refine (Herr.out _).mono ?_; rintro e w5 ⟨rfl, rfl⟩
    go_wp2
    all_goals go_meet
    all_goals exact ⟨rfl, rfl, rfl, _, rfl, by first | exact ⟨fun _ => ⟨hun.out, hnode.out, hses.out, htx.out, herr.out, hn0, hn1⟩, fun _ => rfl⟩ | exact ⟨fun _ => ⟨hun.out, hnode.out, hses.out, htx.out, herr.out, hn0, hn1⟩, fun _ => by simpa using hn1⟩, hz4, hb44⟩
  case rest =>
  obtain ⟨rfl, rfl, rfl, b, rfl, hbB, hz1, hb1⟩ := hcut
  rename World => wA
  clear hb0 hz0 hc0 HK HBC HC33
  have hc : ∀ v : Int, (OkM ⟨kind, node, inc, ses, tx, seq, key, lo, hi, has, data, hit, err, n, W, K⟩ → v = 0) → (¬ OkM ⟨kind, node, inc, ses, tx, seq, key, lo, hi, has, data, hit, err, n, W, K⟩ → v = 1) → v = chkM ⟨kind, node, inc, ses, tx, seq, key, lo, hi, has, data, hit, err, n, W, K⟩ := by
    intro v h1 h2
    unfold chkM
    rw [if_pos hk]
    split
    · exact h1 (by assumption)
    · exact h2 (by assumption)
  have HC := Lib.hid hc
  clear hc
  have HW' := Lib.hid (show LsW wA wp wq W from HW.out.below hb1)
  have HKK' := Lib.hid (show LsS wA kp kq K from HKK.out.below hb1)
  obtain rfl | rfl | rfl | rfl | rfl | rfl | rfl | rfl | rfl | rfl | rfl := (by omega : kind = 1 ∨ kind = 2 ∨ kind = 3 ∨ kind = 4 ∨ kind = 5 ∨ kind = 6 ∨ kind = 7 ∨ kind = 8 ∨ kind = 9 ∨ kind = 10 ∨ kind = 11)
  all_goals clear hk
  · have hc1 := hp_cell hz1
    cases b
    · have HB := Lib.hid (show ¬ BaseM _ from fun h => by have := hbB.2 h; cases this)
      clear hbB
      go_wp2
      all_goals go_ret
      all_goals exact ⟨congrArg (fun v => Ending.returned (Value.int .i64 v)) (HC.out 1 (fun h => absurd (base_of h) HB.out) (fun _ => rfl)), hb1⟩
    have HB := Lib.hid (hbB.1 rfl)
    clear hbB
    by_cases hseq : 1 ≤ seq ∧ seq ≤ 2147483647
    rotate_left
    · have Hseq := Lib.hid (show ∀ W', Calls Try.prog 32 #[.int .i64 seq, .int .i64 1, .int .i64 2147483647] W' fun e w' => e = .returned (.bool false) ∧ W' = w' from fun W' => by have := c_in seq 1 2147483647 W'; rwa [show decide (1 ≤ seq ∧ seq ≤ 2147483647) = false from by rw [decide_eq_false_iff_not]; exact hseq] at this)
      replace hseq := Lib.hid hseq
      go_wp2_with fail
      refine (Hseq.out _).mono ?_; rintro e w5 ⟨rfl, rfl⟩
      go_wp2
      all_goals go_ret
      all_goals exact ⟨congrArg (fun v => Ending.returned (Value.int .i64 v)) (HC.out 1 (fun h => absurd (h.nu.seq (by simp)) hseq.out) (fun _ => rfl)), hb1⟩
    by_cases hgw : (∀ x ∈ W, x.good) ∧ 1 ≤ W.length ∧ W.length ≤ 8
    rotate_left
    · have Hseq := Lib.hid (show ∀ W', Calls Try.prog 32 #[.int .i64 seq, .int .i64 1, .int .i64 2147483647] W' fun e w' => e = .returned (.bool true) ∧ W' = w' from fun W' => by have := c_in seq 1 2147483647 W'; rwa [show decide (1 ≤ seq ∧ seq ≤ 2147483647) = true from by rw [decide_eq_true_eq]; exact hseq] at this)
      have Hgw := Lib.hid (show ∀ W', LsW W' wp wq W → Calls Try.prog 34 #[.slice wp W.length wq] W' fun e w' => e = .returned (.bool false) ∧ Below W'.heap.size W' w' from fun W' hl => by have := c_goodWrites W' wp wq W hl HWn.out; rwa [show decide ((∀ x ∈ W, x.good) ∧ 1 ≤ W.length ∧ W.length ≤ 8) = false from by rw [decide_eq_false_iff_not]; exact hgw] at this)
      replace hseq := Lib.hid hseq
      replace hgw := Lib.hid hgw
      go_wp2_with fail
      refine (Hseq.out _).mono ?_; rintro e w5 ⟨rfl, rfl⟩
      go_wp2_with fail
      refine (Hgw.out _ (HW.out.below hb1)).mono ?_; rintro e v1 ⟨rfl, g1⟩
      have gb1 := below_call hb1 g1
      have gz1 := hp_below g1 hz1
      have gc1 := hp_cell gz1
      clear hc1 g1
      go_wp2
      all_goals go_ret
      all_goals exact ⟨congrArg (fun v => Ending.returned (Value.int .i64 v)) (HC.out 1 (fun h => absurd (h.th.W rfl) hgw.out) (fun _ => rfl)), gb1⟩
    have Hseq := Lib.hid (show ∀ W', Calls Try.prog 32 #[.int .i64 seq, .int .i64 1, .int .i64 2147483647] W' fun e w' => e = .returned (.bool true) ∧ W' = w' from fun W' => by have := c_in seq 1 2147483647 W'; rwa [show decide (1 ≤ seq ∧ seq ≤ 2147483647) = true from by rw [decide_eq_true_eq]; exact hseq] at this)
    have Hgw := Lib.hid (show ∀ W', LsW W' wp wq W → Calls Try.prog 34 #[.slice wp W.length wq] W' fun e w' => e = .returned (.bool true) ∧ Below W'.heap.size W' w' from fun W' hl => by have := c_goodWrites W' wp wq W hl HWn.out; rwa [show decide ((∀ x ∈ W, x.good) ∧ 1 ≤ W.length ∧ W.length ≤ 8) = true from by rw [decide_eq_true_eq]; exact hgw] at this)
    replace hseq := Lib.hid hseq
    replace hgw := Lib.hid hgw
    go_wp2_with fail
    refine (Hseq.out _).mono ?_; rintro e w5 ⟨rfl, rfl⟩
    go_wp2_with fail
    refine (Hgw.out _ (HW.out.below hb1)).mono ?_; rintro e v1 ⟨rfl, g1⟩
    have gb1 := below_call hb1 g1
    have gz1 := hp_below g1 hz1
    have gc1 := hp_cell gz1
    clear hc1 g1
    go_wp2
    all_goals go_ret
    all_goals exact ⟨congrArg (fun v => Ending.returned (Value.int .i64 v)) (HC.out 0 (fun _ => rfl) (fun h => absurd (okM_of HB.out (fun h => hseq.out) (fun h => (by simp at h)) (fun h => (by simp at h)) (by rw [thM_iff]; simp [fullM, hgw.out]; (try exact hgw.out.1))) h)), gb1⟩
  · have hc1 := hp_cell hz1
    cases b
    · have HB := Lib.hid (show ¬ BaseM _ from fun h => by have := hbB.2 h; cases this)
      clear hbB
      go_wp2
      all_goals go_ret
      all_goals exact ⟨congrArg (fun v => Ending.returned (Value.int .i64 v)) (HC.out 1 (fun h => absurd (base_of h) HB.out) (fun _ => rfl)), hb1⟩
    have HB := Lib.hid (hbB.1 rfl)
    clear hbB
    by_cases hseq : 1 ≤ seq ∧ seq ≤ 2147483647
    rotate_left
    · have Hseq := Lib.hid (show ∀ W', Calls Try.prog 32 #[.int .i64 seq, .int .i64 1, .int .i64 2147483647] W' fun e w' => e = .returned (.bool false) ∧ W' = w' from fun W' => by have := c_in seq 1 2147483647 W'; rwa [show decide (1 ≤ seq ∧ seq ≤ 2147483647) = false from by rw [decide_eq_false_iff_not]; exact hseq] at this)
      replace hseq := Lib.hid hseq
      go_wp2_with fail
      refine (Hseq.out _).mono ?_; rintro e w5 ⟨rfl, rfl⟩
      go_wp2
      all_goals go_ret
      all_goals exact ⟨congrArg (fun v => Ending.returned (Value.int .i64 v)) (HC.out 1 (fun h => absurd (h.nu.seq (by simp)) hseq.out) (fun _ => rfl)), hb1⟩
    have Hseq := Lib.hid (show ∀ W', Calls Try.prog 32 #[.int .i64 seq, .int .i64 1, .int .i64 2147483647] W' fun e w' => e = .returned (.bool true) ∧ W' = w' from fun W' => by have := c_in seq 1 2147483647 W'; rwa [show decide (1 ≤ seq ∧ seq ≤ 2147483647) = true from by rw [decide_eq_true_eq]; exact hseq] at this)
    replace hseq := Lib.hid hseq
    go_wp2_with fail
    refine (Hseq.out _).mono ?_; rintro e w5 ⟨rfl, rfl⟩
    go_wp2
    all_goals go_ret
    all_goals exact ⟨congrArg (fun v => Ending.returned (Value.int .i64 v)) (HC.out 0 (fun _ => rfl) (fun h => absurd (okM_of HB.out (fun h => hseq.out) (fun h => (by simp at h)) (fun h => (by simp at h)) (by rw [thM_iff]; simp [fullM])) h)), hb1⟩
  · have hc1 := hp_cell hz1
    cases b
    · have HB := Lib.hid (show ¬ BaseM _ from fun h => by have := hbB.2 h; cases this)
      clear hbB
      go_wp2
      all_goals go_ret
      all_goals exact ⟨congrArg (fun v => Ending.returned (Value.int .i64 v)) (HC.out 1 (fun h => absurd (base_of h) HB.out) (fun _ => rfl)), hb1⟩
    have HB := Lib.hid (hbB.1 rfl)
    clear hbB
    by_cases hseq : 1 ≤ seq ∧ seq ≤ 2147483647
    rotate_left
    · have Hseq := Lib.hid (show ∀ W', Calls Try.prog 32 #[.int .i64 seq, .int .i64 1, .int .i64 2147483647] W' fun e w' => e = .returned (.bool false) ∧ W' = w' from fun W' => by have := c_in seq 1 2147483647 W'; rwa [show decide (1 ≤ seq ∧ seq ≤ 2147483647) = false from by rw [decide_eq_false_iff_not]; exact hseq] at this)
      replace hseq := Lib.hid hseq
      go_wp2_with fail
      refine (Hseq.out _).mono ?_; rintro e w5 ⟨rfl, rfl⟩
      go_wp2
      all_goals go_ret
      all_goals exact ⟨congrArg (fun v => Ending.returned (Value.int .i64 v)) (HC.out 1 (fun h => absurd (h.nu.seq (by simp)) hseq.out) (fun _ => rfl)), hb1⟩
    by_cases hgk : goodK key
    rotate_left
    · have Hseq := Lib.hid (show ∀ W', Calls Try.prog 32 #[.int .i64 seq, .int .i64 1, .int .i64 2147483647] W' fun e w' => e = .returned (.bool true) ∧ W' = w' from fun W' => by have := c_in seq 1 2147483647 W'; rwa [show decide (1 ≤ seq ∧ seq ≤ 2147483647) = true from by rw [decide_eq_true_eq]; exact hseq] at this)
      have Hgk := Lib.hid (show ∀ W', Calls Try.prog 35 #[.string key] W' fun e w' => e = .returned (.bool false) ∧ Below W'.heap.size W' w' from fun W' => by have := c_GoodKey key W'; rwa [show decide (goodK key) = false from by rw [decide_eq_false_iff_not]; exact hgk] at this)
      replace hseq := Lib.hid hseq
      replace hgk := Lib.hid hgk
      go_wp2_with fail
      refine (Hseq.out _).mono ?_; rintro e w5 ⟨rfl, rfl⟩
      go_wp2_with fail
      refine (Hgk.out _).mono ?_; rintro e v1 ⟨rfl, g1⟩
      have gb1 := below_call hb1 g1
      have gz1 := hp_below g1 hz1
      have gc1 := hp_cell gz1
      clear hc1 g1
      go_wp2
      all_goals go_ret
      all_goals exact ⟨congrArg (fun v => Ending.returned (Value.int .i64 v)) (HC.out 1 (fun h => absurd ((h.th.key (by simp)).1) hgk.out) (fun _ => rfl)), gb1⟩
    by_cases hgp : goodP lo hi
    rotate_left
    · have Hseq := Lib.hid (show ∀ W', Calls Try.prog 32 #[.int .i64 seq, .int .i64 1, .int .i64 2147483647] W' fun e w' => e = .returned (.bool true) ∧ W' = w' from fun W' => by have := c_in seq 1 2147483647 W'; rwa [show decide (1 ≤ seq ∧ seq ≤ 2147483647) = true from by rw [decide_eq_true_eq]; exact hseq] at this)
      have Hgk := Lib.hid (show ∀ W', Calls Try.prog 35 #[.string key] W' fun e w' => e = .returned (.bool true) ∧ Below W'.heap.size W' w' from fun W' => by have := c_GoodKey key W'; rwa [show decide (goodK key) = true from by rw [decide_eq_true_eq]; exact hgk] at this)
      have Hgp := Lib.hid (show ∀ W', Calls Try.prog 36 #[.agg #[.int .i64 lo, .int .i64 hi]] W' fun e w' => e = .returned (.bool false) ∧ Below W'.heap.size W' w' from fun W' => by have := c_rgoodPin lo hi W'; rwa [show decide (goodP lo hi) = false from by rw [decide_eq_false_iff_not]; exact hgp] at this)
      replace hseq := Lib.hid hseq
      replace hgk := Lib.hid hgk
      replace hgp := Lib.hid hgp
      go_wp2_with fail
      refine (Hseq.out _).mono ?_; rintro e w5 ⟨rfl, rfl⟩
      go_wp2_with fail
      refine (Hgk.out _).mono ?_; rintro e v1 ⟨rfl, g1⟩
      have gb1 := below_call hb1 g1
      have gz1 := hp_below g1 hz1
      have gc1 := hp_cell gz1
      clear hc1 g1
      go_wp2_with fail
      refine (Hgp.out _).mono ?_; rintro e v2 ⟨rfl, g2⟩
      have gb2 := below_call gb1 g2
      have gz2 := hp_below g2 gz1
      have gc2 := hp_cell gz2
      clear gc1 g2
      go_wp2
      all_goals go_ret
      all_goals exact ⟨congrArg (fun v => Ending.returned (Value.int .i64 v)) (HC.out 1 (fun h => absurd ((h.th.key (by simp)).2) hgp.out) (fun _ => rfl)), gb2⟩
    have Hseq := Lib.hid (show ∀ W', Calls Try.prog 32 #[.int .i64 seq, .int .i64 1, .int .i64 2147483647] W' fun e w' => e = .returned (.bool true) ∧ W' = w' from fun W' => by have := c_in seq 1 2147483647 W'; rwa [show decide (1 ≤ seq ∧ seq ≤ 2147483647) = true from by rw [decide_eq_true_eq]; exact hseq] at this)
    have Hgk := Lib.hid (show ∀ W', Calls Try.prog 35 #[.string key] W' fun e w' => e = .returned (.bool true) ∧ Below W'.heap.size W' w' from fun W' => by have := c_GoodKey key W'; rwa [show decide (goodK key) = true from by rw [decide_eq_true_eq]; exact hgk] at this)
    have Hgp := Lib.hid (show ∀ W', Calls Try.prog 36 #[.agg #[.int .i64 lo, .int .i64 hi]] W' fun e w' => e = .returned (.bool true) ∧ Below W'.heap.size W' w' from fun W' => by have := c_rgoodPin lo hi W'; rwa [show decide (goodP lo hi) = true from by rw [decide_eq_true_eq]; exact hgp] at this)
    replace hseq := Lib.hid hseq
    replace hgk := Lib.hid hgk
    replace hgp := Lib.hid hgp
    go_wp2_with fail
    refine (Hseq.out _).mono ?_; rintro e w5 ⟨rfl, rfl⟩
    go_wp2_with fail
    refine (Hgk.out _).mono ?_; rintro e v1 ⟨rfl, g1⟩
    have gb1 := below_call hb1 g1
    have gz1 := hp_below g1 hz1
    have gc1 := hp_cell gz1
    clear hc1 g1
    go_wp2_with fail
    refine (Hgp.out _).mono ?_; rintro e v2 ⟨rfl, g2⟩
    have gb2 := below_call gb1 g2
    have gz2 := hp_below g2 gz1
    have gc2 := hp_cell gz2
    clear gc1 g2
    go_wp2
    all_goals go_ret
    all_goals exact ⟨congrArg (fun v => Ending.returned (Value.int .i64 v)) (HC.out 0 (fun _ => rfl) (fun h => absurd (okM_of HB.out (fun h => hseq.out) (fun h => (by simp at h)) (fun h => (by simp at h)) (by rw [thM_iff]; simp [fullM, hgk.out, hgp.out])) h)), gb2⟩
  · cases hit
    · have hc1 := hp_cell hz1
      cases b
      · have HB := Lib.hid (show ¬ BaseM _ from fun h => by have := hbB.2 h; cases this)
        clear hbB
        go_wp2
        all_goals go_ret
        all_goals exact ⟨congrArg (fun v => Ending.returned (Value.int .i64 v)) (HC.out 1 (fun h => absurd (base_of h) HB.out) (fun _ => rfl)), hb1⟩
      have HB := Lib.hid (hbB.1 rfl)
      clear hbB
      by_cases hseq : 1 ≤ seq ∧ seq ≤ 2147483647
      rotate_left
      · have Hseq := Lib.hid (show ∀ W', Calls Try.prog 32 #[.int .i64 seq, .int .i64 1, .int .i64 2147483647] W' fun e w' => e = .returned (.bool false) ∧ W' = w' from fun W' => by have := c_in seq 1 2147483647 W'; rwa [show decide (1 ≤ seq ∧ seq ≤ 2147483647) = false from by rw [decide_eq_false_iff_not]; exact hseq] at this)
        replace hseq := Lib.hid hseq
        go_wp2_with fail
        refine (Hseq.out _).mono ?_; rintro e w5 ⟨rfl, rfl⟩
        go_wp2
        all_goals go_ret
        all_goals exact ⟨congrArg (fun v => Ending.returned (Value.int .i64 v)) (HC.out 1 (fun h => absurd (h.nu.seq (by simp)) hseq.out) (fun _ => rfl)), hb1⟩
      have Hseq := Lib.hid (show ∀ W', Calls Try.prog 32 #[.int .i64 seq, .int .i64 1, .int .i64 2147483647] W' fun e w' => e = .returned (.bool true) ∧ W' = w' from fun W' => by have := c_in seq 1 2147483647 W'; rwa [show decide (1 ≤ seq ∧ seq ≤ 2147483647) = true from by rw [decide_eq_true_eq]; exact hseq] at this)
      replace hseq := Lib.hid hseq
      go_wp2_with fail
      refine (Hseq.out _).mono ?_; rintro e w5 ⟨rfl, rfl⟩
      go_wp2
      all_goals go_ret
      all_goals exact ⟨congrArg (fun v => Ending.returned (Value.int .i64 v)) (HC.out 0 (fun _ => rfl) (fun h => absurd (okM_of HB.out (fun h => hseq.out) (fun h => (by simp at h)) (fun h => (by simp at h)) (by rw [thM_iff]; simp [fullM])) h)), hb1⟩
    · have hc1 := hp_cell hz1
      cases b
      · have HB := Lib.hid (show ¬ BaseM _ from fun h => by have := hbB.2 h; cases this)
        clear hbB
        go_wp2
        all_goals go_ret
        all_goals exact ⟨congrArg (fun v => Ending.returned (Value.int .i64 v)) (HC.out 1 (fun h => absurd (base_of h) HB.out) (fun _ => rfl)), hb1⟩
      have HB := Lib.hid (hbB.1 rfl)
      clear hbB
      by_cases hseq : 1 ≤ seq ∧ seq ≤ 2147483647
      rotate_left
      · have Hseq := Lib.hid (show ∀ W', Calls Try.prog 32 #[.int .i64 seq, .int .i64 1, .int .i64 2147483647] W' fun e w' => e = .returned (.bool false) ∧ W' = w' from fun W' => by have := c_in seq 1 2147483647 W'; rwa [show decide (1 ≤ seq ∧ seq ≤ 2147483647) = false from by rw [decide_eq_false_iff_not]; exact hseq] at this)
        replace hseq := Lib.hid hseq
        go_wp2_with fail
        refine (Hseq.out _).mono ?_; rintro e w5 ⟨rfl, rfl⟩
        go_wp2
        all_goals go_ret
        all_goals exact ⟨congrArg (fun v => Ending.returned (Value.int .i64 v)) (HC.out 1 (fun h => absurd (h.nu.seq (by simp)) hseq.out) (fun _ => rfl)), hb1⟩
      by_cases hfv : goodV has data
      rotate_left
      · have Hseq := Lib.hid (show ∀ W', Calls Try.prog 32 #[.int .i64 seq, .int .i64 1, .int .i64 2147483647] W' fun e w' => e = .returned (.bool true) ∧ W' = w' from fun W' => by have := c_in seq 1 2147483647 W'; rwa [show decide (1 ≤ seq ∧ seq ≤ 2147483647) = true from by rw [decide_eq_true_eq]; exact hseq] at this)
        have Hfv := Lib.hid (show ∀ W', Calls Try.prog 37 #[.agg #[.bool has, .string data]] W' fun e w' => e = .returned (.bool false) ∧ Below W'.heap.size W' w' from fun W' => by have := c_GoodValue has data W'; rwa [show decide (goodV has data) = false from by rw [decide_eq_false_iff_not]; exact hfv] at this)
        replace hseq := Lib.hid hseq
        replace hfv := Lib.hid hfv
        go_wp2_with fail
        refine (Hseq.out _).mono ?_; rintro e w5 ⟨rfl, rfl⟩
        go_wp2_with fail
        refine (Hfv.out _).mono ?_; rintro e v1 ⟨rfl, g1⟩
        have gb1 := below_call hb1 g1
        have gz1 := hp_below g1 hz1
        have gc1 := hp_cell gz1
        clear hc1 g1
        go_wp2
        all_goals go_ret
        all_goals exact ⟨congrArg (fun v => Ending.returned (Value.int .i64 v)) (HC.out 1 (fun h => absurd ((h.th.full (by simp [fullM])).1) hfv.out) (fun _ => rfl)), gb1⟩
      by_cases hfp : goodP lo hi
      rotate_left
      · have Hseq := Lib.hid (show ∀ W', Calls Try.prog 32 #[.int .i64 seq, .int .i64 1, .int .i64 2147483647] W' fun e w' => e = .returned (.bool true) ∧ W' = w' from fun W' => by have := c_in seq 1 2147483647 W'; rwa [show decide (1 ≤ seq ∧ seq ≤ 2147483647) = true from by rw [decide_eq_true_eq]; exact hseq] at this)
        have Hfv := Lib.hid (show ∀ W', Calls Try.prog 37 #[.agg #[.bool has, .string data]] W' fun e w' => e = .returned (.bool true) ∧ Below W'.heap.size W' w' from fun W' => by have := c_GoodValue has data W'; rwa [show decide (goodV has data) = true from by rw [decide_eq_true_eq]; exact hfv] at this)
        have Hfp := Lib.hid (show ∀ W', Calls Try.prog 36 #[.agg #[.int .i64 lo, .int .i64 hi]] W' fun e w' => e = .returned (.bool false) ∧ Below W'.heap.size W' w' from fun W' => by have := c_rgoodPin lo hi W'; rwa [show decide (goodP lo hi) = false from by rw [decide_eq_false_iff_not]; exact hfp] at this)
        replace hseq := Lib.hid hseq
        replace hfv := Lib.hid hfv
        replace hfp := Lib.hid hfp
        go_wp2_with fail
        refine (Hseq.out _).mono ?_; rintro e w5 ⟨rfl, rfl⟩
        go_wp2_with fail
        refine (Hfv.out _).mono ?_; rintro e v1 ⟨rfl, g1⟩
        have gb1 := below_call hb1 g1
        have gz1 := hp_below g1 hz1
        have gc1 := hp_cell gz1
        clear hc1 g1
        go_wp2_with fail
        refine (Hfp.out _).mono ?_; rintro e v2 ⟨rfl, g2⟩
        have gb2 := below_call gb1 g2
        have gz2 := hp_below g2 gz1
        have gc2 := hp_cell gz2
        clear gc1 g2
        go_wp2
        all_goals go_ret
        all_goals exact ⟨congrArg (fun v => Ending.returned (Value.int .i64 v)) (HC.out 1 (fun h => absurd ((h.th.full (by simp [fullM])).2) hfp.out) (fun _ => rfl)), gb2⟩
      have Hseq := Lib.hid (show ∀ W', Calls Try.prog 32 #[.int .i64 seq, .int .i64 1, .int .i64 2147483647] W' fun e w' => e = .returned (.bool true) ∧ W' = w' from fun W' => by have := c_in seq 1 2147483647 W'; rwa [show decide (1 ≤ seq ∧ seq ≤ 2147483647) = true from by rw [decide_eq_true_eq]; exact hseq] at this)
      have Hfv := Lib.hid (show ∀ W', Calls Try.prog 37 #[.agg #[.bool has, .string data]] W' fun e w' => e = .returned (.bool true) ∧ Below W'.heap.size W' w' from fun W' => by have := c_GoodValue has data W'; rwa [show decide (goodV has data) = true from by rw [decide_eq_true_eq]; exact hfv] at this)
      have Hfp := Lib.hid (show ∀ W', Calls Try.prog 36 #[.agg #[.int .i64 lo, .int .i64 hi]] W' fun e w' => e = .returned (.bool true) ∧ Below W'.heap.size W' w' from fun W' => by have := c_rgoodPin lo hi W'; rwa [show decide (goodP lo hi) = true from by rw [decide_eq_true_eq]; exact hfp] at this)
      replace hseq := Lib.hid hseq
      replace hfv := Lib.hid hfv
      replace hfp := Lib.hid hfp
      go_wp2_with fail
      refine (Hseq.out _).mono ?_; rintro e w5 ⟨rfl, rfl⟩
      go_wp2_with fail
      refine (Hfv.out _).mono ?_; rintro e v1 ⟨rfl, g1⟩
      have gb1 := below_call hb1 g1
      have gz1 := hp_below g1 hz1
      have gc1 := hp_cell gz1
      clear hc1 g1
      go_wp2_with fail
      refine (Hfp.out _).mono ?_; rintro e v2 ⟨rfl, g2⟩
      have gb2 := below_call gb1 g2
      have gz2 := hp_below g2 gz1
      have gc2 := hp_cell gz2
      clear gc1 g2
      go_wp2
      all_goals go_ret
      all_goals exact ⟨congrArg (fun v => Ending.returned (Value.int .i64 v)) (HC.out 0 (fun _ => rfl) (fun h => absurd (okM_of HB.out (fun h => hseq.out) (fun h => (by simp at h)) (fun h => (by simp at h)) (by rw [thM_iff]; simp [fullM, hfv.out, hfp.out])) h)), gb2⟩
  · have hc1 := hp_cell hz1
    cases b
    · have HB := Lib.hid (show ¬ BaseM _ from fun h => by have := hbB.2 h; cases this)
      clear hbB
      go_wp2
      all_goals go_ret
      all_goals exact ⟨congrArg (fun v => Ending.returned (Value.int .i64 v)) (HC.out 1 (fun h => absurd (base_of h) HB.out) (fun _ => rfl)), hb1⟩
    have HB := Lib.hid (hbB.1 rfl)
    clear hbB
    by_cases hseq : 1 ≤ seq ∧ seq ≤ 2147483647
    rotate_left
    · have Hseq := Lib.hid (show ∀ W', Calls Try.prog 32 #[.int .i64 seq, .int .i64 1, .int .i64 2147483647] W' fun e w' => e = .returned (.bool false) ∧ W' = w' from fun W' => by have := c_in seq 1 2147483647 W'; rwa [show decide (1 ≤ seq ∧ seq ≤ 2147483647) = false from by rw [decide_eq_false_iff_not]; exact hseq] at this)
      replace hseq := Lib.hid hseq
      go_wp2_with fail
      refine (Hseq.out _).mono ?_; rintro e w5 ⟨rfl, rfl⟩
      go_wp2
      all_goals go_ret
      all_goals exact ⟨congrArg (fun v => Ending.returned (Value.int .i64 v)) (HC.out 1 (fun h => absurd (h.nu.seq (by simp)) hseq.out) (fun _ => rfl)), hb1⟩
    by_cases hgk : goodK key
    rotate_left
    · have Hseq := Lib.hid (show ∀ W', Calls Try.prog 32 #[.int .i64 seq, .int .i64 1, .int .i64 2147483647] W' fun e w' => e = .returned (.bool true) ∧ W' = w' from fun W' => by have := c_in seq 1 2147483647 W'; rwa [show decide (1 ≤ seq ∧ seq ≤ 2147483647) = true from by rw [decide_eq_true_eq]; exact hseq] at this)
      have Hgk := Lib.hid (show ∀ W', Calls Try.prog 35 #[.string key] W' fun e w' => e = .returned (.bool false) ∧ Below W'.heap.size W' w' from fun W' => by have := c_GoodKey key W'; rwa [show decide (goodK key) = false from by rw [decide_eq_false_iff_not]; exact hgk] at this)
      replace hseq := Lib.hid hseq
      replace hgk := Lib.hid hgk
      go_wp2_with fail
      refine (Hseq.out _).mono ?_; rintro e w5 ⟨rfl, rfl⟩
      go_wp2_with fail
      refine (Hgk.out _).mono ?_; rintro e v1 ⟨rfl, g1⟩
      have gb1 := below_call hb1 g1
      have gz1 := hp_below g1 hz1
      have gc1 := hp_cell gz1
      clear hc1 g1
      go_wp2
      all_goals go_ret
      all_goals exact ⟨congrArg (fun v => Ending.returned (Value.int .i64 v)) (HC.out 1 (fun h => absurd ((h.th.key (by simp)).1) hgk.out) (fun _ => rfl)), gb1⟩
    by_cases hgp : goodP lo hi
    rotate_left
    · have Hseq := Lib.hid (show ∀ W', Calls Try.prog 32 #[.int .i64 seq, .int .i64 1, .int .i64 2147483647] W' fun e w' => e = .returned (.bool true) ∧ W' = w' from fun W' => by have := c_in seq 1 2147483647 W'; rwa [show decide (1 ≤ seq ∧ seq ≤ 2147483647) = true from by rw [decide_eq_true_eq]; exact hseq] at this)
      have Hgk := Lib.hid (show ∀ W', Calls Try.prog 35 #[.string key] W' fun e w' => e = .returned (.bool true) ∧ Below W'.heap.size W' w' from fun W' => by have := c_GoodKey key W'; rwa [show decide (goodK key) = true from by rw [decide_eq_true_eq]; exact hgk] at this)
      have Hgp := Lib.hid (show ∀ W', Calls Try.prog 36 #[.agg #[.int .i64 lo, .int .i64 hi]] W' fun e w' => e = .returned (.bool false) ∧ Below W'.heap.size W' w' from fun W' => by have := c_rgoodPin lo hi W'; rwa [show decide (goodP lo hi) = false from by rw [decide_eq_false_iff_not]; exact hgp] at this)
      replace hseq := Lib.hid hseq
      replace hgk := Lib.hid hgk
      replace hgp := Lib.hid hgp
      go_wp2_with fail
      refine (Hseq.out _).mono ?_; rintro e w5 ⟨rfl, rfl⟩
      go_wp2_with fail
      refine (Hgk.out _).mono ?_; rintro e v1 ⟨rfl, g1⟩
      have gb1 := below_call hb1 g1
      have gz1 := hp_below g1 hz1
      have gc1 := hp_cell gz1
      clear hc1 g1
      go_wp2_with fail
      refine (Hgp.out _).mono ?_; rintro e v2 ⟨rfl, g2⟩
      have gb2 := below_call gb1 g2
      have gz2 := hp_below g2 gz1
      have gc2 := hp_cell gz2
      clear gc1 g2
      go_wp2
      all_goals go_ret
      all_goals exact ⟨congrArg (fun v => Ending.returned (Value.int .i64 v)) (HC.out 1 (fun h => absurd ((h.th.key (by simp)).2) hgp.out) (fun _ => rfl)), gb2⟩
    have Hseq := Lib.hid (show ∀ W', Calls Try.prog 32 #[.int .i64 seq, .int .i64 1, .int .i64 2147483647] W' fun e w' => e = .returned (.bool true) ∧ W' = w' from fun W' => by have := c_in seq 1 2147483647 W'; rwa [show decide (1 ≤ seq ∧ seq ≤ 2147483647) = true from by rw [decide_eq_true_eq]; exact hseq] at this)
    have Hgk := Lib.hid (show ∀ W', Calls Try.prog 35 #[.string key] W' fun e w' => e = .returned (.bool true) ∧ Below W'.heap.size W' w' from fun W' => by have := c_GoodKey key W'; rwa [show decide (goodK key) = true from by rw [decide_eq_true_eq]; exact hgk] at this)
    have Hgp := Lib.hid (show ∀ W', Calls Try.prog 36 #[.agg #[.int .i64 lo, .int .i64 hi]] W' fun e w' => e = .returned (.bool true) ∧ Below W'.heap.size W' w' from fun W' => by have := c_rgoodPin lo hi W'; rwa [show decide (goodP lo hi) = true from by rw [decide_eq_true_eq]; exact hgp] at this)
    replace hseq := Lib.hid hseq
    replace hgk := Lib.hid hgk
    replace hgp := Lib.hid hgp
    go_wp2_with fail
    refine (Hseq.out _).mono ?_; rintro e w5 ⟨rfl, rfl⟩
    go_wp2_with fail
    refine (Hgk.out _).mono ?_; rintro e v1 ⟨rfl, g1⟩
    have gb1 := below_call hb1 g1
    have gz1 := hp_below g1 hz1
    have gc1 := hp_cell gz1
    clear hc1 g1
    go_wp2_with fail
    refine (Hgp.out _).mono ?_; rintro e v2 ⟨rfl, g2⟩
    have gb2 := below_call gb1 g2
    have gz2 := hp_below g2 gz1
    have gc2 := hp_cell gz2
    clear gc1 g2
    go_wp2
    all_goals go_ret
    all_goals exact ⟨congrArg (fun v => Ending.returned (Value.int .i64 v)) (HC.out 0 (fun _ => rfl) (fun h => absurd (okM_of HB.out (fun h => hseq.out) (fun h => (by simp at h)) (fun h => (by simp at h)) (by rw [thM_iff]; simp [fullM, hgk.out, hgp.out])) h)), gb2⟩
  · by_cases he : err = 0
    · subst he
      have hc1 := hp_cell hz1
      cases b
      · have HB := Lib.hid (show ¬ BaseM _ from fun h => by have := hbB.2 h; cases this)
        clear hbB
        go_wp2
        all_goals go_ret
        all_goals exact ⟨congrArg (fun v => Ending.returned (Value.int .i64 v)) (HC.out 1 (fun h => absurd (base_of h) HB.out) (fun _ => rfl)), hb1⟩
      have HB := Lib.hid (hbB.1 rfl)
      clear hbB
      by_cases hseq : 1 ≤ seq ∧ seq ≤ 2147483647
      rotate_left
      · have Hseq := Lib.hid (show ∀ W', Calls Try.prog 32 #[.int .i64 seq, .int .i64 1, .int .i64 2147483647] W' fun e w' => e = .returned (.bool false) ∧ W' = w' from fun W' => by have := c_in seq 1 2147483647 W'; rwa [show decide (1 ≤ seq ∧ seq ≤ 2147483647) = false from by rw [decide_eq_false_iff_not]; exact hseq] at this)
        replace hseq := Lib.hid hseq
        go_wp2_with fail
        refine (Hseq.out _).mono ?_; rintro e w5 ⟨rfl, rfl⟩
        go_wp2
        all_goals go_ret
        all_goals exact ⟨congrArg (fun v => Ending.returned (Value.int .i64 v)) (HC.out 1 (fun h => absurd (h.nu.seq (by simp)) hseq.out) (fun _ => rfl)), hb1⟩
      by_cases hfv : goodV has data
      rotate_left
      · have Hseq := Lib.hid (show ∀ W', Calls Try.prog 32 #[.int .i64 seq, .int .i64 1, .int .i64 2147483647] W' fun e w' => e = .returned (.bool true) ∧ W' = w' from fun W' => by have := c_in seq 1 2147483647 W'; rwa [show decide (1 ≤ seq ∧ seq ≤ 2147483647) = true from by rw [decide_eq_true_eq]; exact hseq] at this)
        have Hfv := Lib.hid (show ∀ W', Calls Try.prog 37 #[.agg #[.bool has, .string data]] W' fun e w' => e = .returned (.bool false) ∧ Below W'.heap.size W' w' from fun W' => by have := c_GoodValue has data W'; rwa [show decide (goodV has data) = false from by rw [decide_eq_false_iff_not]; exact hfv] at this)
        replace hseq := Lib.hid hseq
        replace hfv := Lib.hid hfv
        go_wp2_with fail
        refine (Hseq.out _).mono ?_; rintro e w5 ⟨rfl, rfl⟩
        go_wp2_with fail
        refine (Hfv.out _).mono ?_; rintro e v1 ⟨rfl, g1⟩
        have gb1 := below_call hb1 g1
        have gz1 := hp_below g1 hz1
        have gc1 := hp_cell gz1
        clear hc1 g1
        go_wp2
        all_goals go_ret
        all_goals exact ⟨congrArg (fun v => Ending.returned (Value.int .i64 v)) (HC.out 1 (fun h => absurd ((h.th.full (by simp [fullM])).1) hfv.out) (fun _ => rfl)), gb1⟩
      by_cases hfp : goodP lo hi
      rotate_left
      · have Hseq := Lib.hid (show ∀ W', Calls Try.prog 32 #[.int .i64 seq, .int .i64 1, .int .i64 2147483647] W' fun e w' => e = .returned (.bool true) ∧ W' = w' from fun W' => by have := c_in seq 1 2147483647 W'; rwa [show decide (1 ≤ seq ∧ seq ≤ 2147483647) = true from by rw [decide_eq_true_eq]; exact hseq] at this)
        have Hfv := Lib.hid (show ∀ W', Calls Try.prog 37 #[.agg #[.bool has, .string data]] W' fun e w' => e = .returned (.bool true) ∧ Below W'.heap.size W' w' from fun W' => by have := c_GoodValue has data W'; rwa [show decide (goodV has data) = true from by rw [decide_eq_true_eq]; exact hfv] at this)
        have Hfp := Lib.hid (show ∀ W', Calls Try.prog 36 #[.agg #[.int .i64 lo, .int .i64 hi]] W' fun e w' => e = .returned (.bool false) ∧ Below W'.heap.size W' w' from fun W' => by have := c_rgoodPin lo hi W'; rwa [show decide (goodP lo hi) = false from by rw [decide_eq_false_iff_not]; exact hfp] at this)
        replace hseq := Lib.hid hseq
        replace hfv := Lib.hid hfv
        replace hfp := Lib.hid hfp
        go_wp2_with fail
        refine (Hseq.out _).mono ?_; rintro e w5 ⟨rfl, rfl⟩
        go_wp2_with fail
        refine (Hfv.out _).mono ?_; rintro e v1 ⟨rfl, g1⟩
        have gb1 := below_call hb1 g1
        have gz1 := hp_below g1 hz1
        have gc1 := hp_cell gz1
        clear hc1 g1
        go_wp2_with fail
        refine (Hfp.out _).mono ?_; rintro e v2 ⟨rfl, g2⟩
        have gb2 := below_call gb1 g2
        have gz2 := hp_below g2 gz1
        have gc2 := hp_cell gz2
        clear gc1 g2
        go_wp2
        all_goals go_ret
        all_goals exact ⟨congrArg (fun v => Ending.returned (Value.int .i64 v)) (HC.out 1 (fun h => absurd ((h.th.full (by simp [fullM])).2) hfp.out) (fun _ => rfl)), gb2⟩
      have Hseq := Lib.hid (show ∀ W', Calls Try.prog 32 #[.int .i64 seq, .int .i64 1, .int .i64 2147483647] W' fun e w' => e = .returned (.bool true) ∧ W' = w' from fun W' => by have := c_in seq 1 2147483647 W'; rwa [show decide (1 ≤ seq ∧ seq ≤ 2147483647) = true from by rw [decide_eq_true_eq]; exact hseq] at this)
      have Hfv := Lib.hid (show ∀ W', Calls Try.prog 37 #[.agg #[.bool has, .string data]] W' fun e w' => e = .returned (.bool true) ∧ Below W'.heap.size W' w' from fun W' => by have := c_GoodValue has data W'; rwa [show decide (goodV has data) = true from by rw [decide_eq_true_eq]; exact hfv] at this)
      have Hfp := Lib.hid (show ∀ W', Calls Try.prog 36 #[.agg #[.int .i64 lo, .int .i64 hi]] W' fun e w' => e = .returned (.bool true) ∧ Below W'.heap.size W' w' from fun W' => by have := c_rgoodPin lo hi W'; rwa [show decide (goodP lo hi) = true from by rw [decide_eq_true_eq]; exact hfp] at this)
      replace hseq := Lib.hid hseq
      replace hfv := Lib.hid hfv
      replace hfp := Lib.hid hfp
      go_wp2_with fail
      refine (Hseq.out _).mono ?_; rintro e w5 ⟨rfl, rfl⟩
      go_wp2_with fail
      refine (Hfv.out _).mono ?_; rintro e v1 ⟨rfl, g1⟩
      have gb1 := below_call hb1 g1
      have gz1 := hp_below g1 hz1
      have gc1 := hp_cell gz1
      clear hc1 g1
      go_wp2_with fail
      refine (Hfp.out _).mono ?_; rintro e v2 ⟨rfl, g2⟩
      have gb2 := below_call gb1 g2
      have gz2 := hp_below g2 gz1
      have gc2 := hp_cell gz2
      clear gc1 g2
      go_wp2
      all_goals go_ret
      all_goals exact ⟨congrArg (fun v => Ending.returned (Value.int .i64 v)) (HC.out 0 (fun _ => rfl) (fun h => absurd (okM_of HB.out (fun h => hseq.out) (fun h => (by simp at h)) (fun h => (by simp at h)) (by rw [thM_iff]; simp [fullM, hfv.out, hfp.out])) h)), gb2⟩
    · have HE := Lib.hid he
      have hne : (err == 0) = false := by simpa using he
      clear he
      have hc1 := hp_cell hz1
      cases b
      · have HB := Lib.hid (show ¬ BaseM _ from fun h => by have := hbB.2 h; cases this)
        clear hbB
        go_wp2
        all_goals go_ret
        all_goals exact ⟨congrArg (fun v => Ending.returned (Value.int .i64 v)) (HC.out 1 (fun h => absurd (base_of h) HB.out) (fun _ => rfl)), hb1⟩
      have HB := Lib.hid (hbB.1 rfl)
      clear hbB
      by_cases hseq : 1 ≤ seq ∧ seq ≤ 2147483647
      rotate_left
      · have Hseq := Lib.hid (show ∀ W', Calls Try.prog 32 #[.int .i64 seq, .int .i64 1, .int .i64 2147483647] W' fun e w' => e = .returned (.bool false) ∧ W' = w' from fun W' => by have := c_in seq 1 2147483647 W'; rwa [show decide (1 ≤ seq ∧ seq ≤ 2147483647) = false from by rw [decide_eq_false_iff_not]; exact hseq] at this)
        replace hseq := Lib.hid hseq
        go_wp2_with fail
        refine (Hseq.out _).mono ?_; rintro e w5 ⟨rfl, rfl⟩
        go_wp2
        all_goals go_ret
        all_goals exact ⟨congrArg (fun v => Ending.returned (Value.int .i64 v)) (HC.out 1 (fun h => absurd (h.nu.seq (by simp)) hseq.out) (fun _ => rfl)), hb1⟩
      have Hseq := Lib.hid (show ∀ W', Calls Try.prog 32 #[.int .i64 seq, .int .i64 1, .int .i64 2147483647] W' fun e w' => e = .returned (.bool true) ∧ W' = w' from fun W' => by have := c_in seq 1 2147483647 W'; rwa [show decide (1 ≤ seq ∧ seq ≤ 2147483647) = true from by rw [decide_eq_true_eq]; exact hseq] at this)
      replace hseq := Lib.hid hseq
      go_wp2_with fail
      refine (Hseq.out _).mono ?_; rintro e w5 ⟨rfl, rfl⟩
      go_wp2
      all_goals go_ret
      all_goals exact ⟨congrArg (fun v => Ending.returned (Value.int .i64 v)) (HC.out 0 (fun _ => rfl) (fun h => absurd (okM_of HB.out (fun h => hseq.out) (fun h => (by simp at h)) (fun h => (by simp at h)) (by rw [thM_iff]; simp [fullM, HE.out])) h)), hb1⟩
  · have hc1 := hp_cell hz1
    cases b
    · have HB := Lib.hid (show ¬ BaseM _ from fun h => by have := hbB.2 h; cases this)
      clear hbB
      go_wp2
      all_goals go_ret
      all_goals exact ⟨congrArg (fun v => Ending.returned (Value.int .i64 v)) (HC.out 1 (fun h => absurd (base_of h) HB.out) (fun _ => rfl)), hb1⟩
    have HB := Lib.hid (hbB.1 rfl)
    clear hbB
    by_cases hgk : goodK key
    rotate_left
    · have Hgk := Lib.hid (show ∀ W', Calls Try.prog 35 #[.string key] W' fun e w' => e = .returned (.bool false) ∧ Below W'.heap.size W' w' from fun W' => by have := c_GoodKey key W'; rwa [show decide (goodK key) = false from by rw [decide_eq_false_iff_not]; exact hgk] at this)
      replace hgk := Lib.hid hgk
      go_wp2_with fail
      refine (Hgk.out _).mono ?_; rintro e v1 ⟨rfl, g1⟩
      have gb1 := below_call hb1 g1
      have gz1 := hp_below g1 hz1
      have gc1 := hp_cell gz1
      clear hc1 g1
      go_wp2
      all_goals go_ret
      all_goals exact ⟨congrArg (fun v => Ending.returned (Value.int .i64 v)) (HC.out 1 (fun h => absurd ((h.th.key (by simp)).1) hgk.out) (fun _ => rfl)), gb1⟩
    by_cases hgv : goodV has data
    rotate_left
    · have Hgk := Lib.hid (show ∀ W', Calls Try.prog 35 #[.string key] W' fun e w' => e = .returned (.bool true) ∧ Below W'.heap.size W' w' from fun W' => by have := c_GoodKey key W'; rwa [show decide (goodK key) = true from by rw [decide_eq_true_eq]; exact hgk] at this)
      have Hgv := Lib.hid (show ∀ W', Calls Try.prog 37 #[.agg #[.bool has, .string data]] W' fun e w' => e = .returned (.bool false) ∧ Below W'.heap.size W' w' from fun W' => by have := c_GoodValue has data W'; rwa [show decide (goodV has data) = false from by rw [decide_eq_false_iff_not]; exact hgv] at this)
      replace hgk := Lib.hid hgk
      replace hgv := Lib.hid hgv
      go_wp2_with fail
      refine (Hgk.out _).mono ?_; rintro e v1 ⟨rfl, g1⟩
      have gb1 := below_call hb1 g1
      have gz1 := hp_below g1 hz1
      have gc1 := hp_cell gz1
      clear hc1 g1
      go_wp2_with fail
      refine (Hgv.out _).mono ?_; rintro e v2 ⟨rfl, g2⟩
      have gb2 := below_call gb1 g2
      have gz2 := hp_below g2 gz1
      have gc2 := hp_cell gz2
      clear gc1 g2
      go_wp2
      all_goals go_ret
      all_goals exact ⟨congrArg (fun v => Ending.returned (Value.int .i64 v)) (HC.out 1 (fun h => absurd (h.th.value rfl) hgv.out) (fun _ => rfl)), gb2⟩
    by_cases hgp : goodP lo hi
    rotate_left
    · have Hgk := Lib.hid (show ∀ W', Calls Try.prog 35 #[.string key] W' fun e w' => e = .returned (.bool true) ∧ Below W'.heap.size W' w' from fun W' => by have := c_GoodKey key W'; rwa [show decide (goodK key) = true from by rw [decide_eq_true_eq]; exact hgk] at this)
      have Hgv := Lib.hid (show ∀ W', Calls Try.prog 37 #[.agg #[.bool has, .string data]] W' fun e w' => e = .returned (.bool true) ∧ Below W'.heap.size W' w' from fun W' => by have := c_GoodValue has data W'; rwa [show decide (goodV has data) = true from by rw [decide_eq_true_eq]; exact hgv] at this)
      have Hgp := Lib.hid (show ∀ W', Calls Try.prog 36 #[.agg #[.int .i64 lo, .int .i64 hi]] W' fun e w' => e = .returned (.bool false) ∧ Below W'.heap.size W' w' from fun W' => by have := c_rgoodPin lo hi W'; rwa [show decide (goodP lo hi) = false from by rw [decide_eq_false_iff_not]; exact hgp] at this)
      replace hgk := Lib.hid hgk
      replace hgv := Lib.hid hgv
      replace hgp := Lib.hid hgp
      go_wp2_with fail
      refine (Hgk.out _).mono ?_; rintro e v1 ⟨rfl, g1⟩
      have gb1 := below_call hb1 g1
      have gz1 := hp_below g1 hz1
      have gc1 := hp_cell gz1
      clear hc1 g1
      go_wp2_with fail
      refine (Hgv.out _).mono ?_; rintro e v2 ⟨rfl, g2⟩
      have gb2 := below_call gb1 g2
      have gz2 := hp_below g2 gz1
      have gc2 := hp_cell gz2
      clear gc1 g2
      go_wp2_with fail
      refine (Hgp.out _).mono ?_; rintro e v3 ⟨rfl, g3⟩
      have gb3 := below_call gb2 g3
      have gz3 := hp_below g3 gz2
      have gc3 := hp_cell gz3
      clear gc2 g3
      go_wp2
      all_goals go_ret
      all_goals exact ⟨congrArg (fun v => Ending.returned (Value.int .i64 v)) (HC.out 1 (fun h => absurd ((h.th.key (by simp)).2) hgp.out) (fun _ => rfl)), gb3⟩
    have Hgk := Lib.hid (show ∀ W', Calls Try.prog 35 #[.string key] W' fun e w' => e = .returned (.bool true) ∧ Below W'.heap.size W' w' from fun W' => by have := c_GoodKey key W'; rwa [show decide (goodK key) = true from by rw [decide_eq_true_eq]; exact hgk] at this)
    have Hgv := Lib.hid (show ∀ W', Calls Try.prog 37 #[.agg #[.bool has, .string data]] W' fun e w' => e = .returned (.bool true) ∧ Below W'.heap.size W' w' from fun W' => by have := c_GoodValue has data W'; rwa [show decide (goodV has data) = true from by rw [decide_eq_true_eq]; exact hgv] at this)
    have Hgp := Lib.hid (show ∀ W', Calls Try.prog 36 #[.agg #[.int .i64 lo, .int .i64 hi]] W' fun e w' => e = .returned (.bool true) ∧ Below W'.heap.size W' w' from fun W' => by have := c_rgoodPin lo hi W'; rwa [show decide (goodP lo hi) = true from by rw [decide_eq_true_eq]; exact hgp] at this)
    replace hgk := Lib.hid hgk
    replace hgv := Lib.hid hgv
    replace hgp := Lib.hid hgp
    go_wp2_with fail
    refine (Hgk.out _).mono ?_; rintro e v1 ⟨rfl, g1⟩
    have gb1 := below_call hb1 g1
    have gz1 := hp_below g1 hz1
    have gc1 := hp_cell gz1
    clear hc1 g1
    go_wp2_with fail
    refine (Hgv.out _).mono ?_; rintro e v2 ⟨rfl, g2⟩
    have gb2 := below_call gb1 g2
    have gz2 := hp_below g2 gz1
    have gc2 := hp_cell gz2
    clear gc1 g2
    go_wp2_with fail
    refine (Hgp.out _).mono ?_; rintro e v3 ⟨rfl, g3⟩
    have gb3 := below_call gb2 g3
    have gz3 := hp_below g3 gz2
    have gc3 := hp_cell gz3
    clear gc2 g3
    go_wp2
    all_goals go_ret
    all_goals exact ⟨congrArg (fun v => Ending.returned (Value.int .i64 v)) (HC.out 0 (fun _ => rfl) (fun h => absurd (okM_of HB.out (fun h => (by simp at h)) (fun h => (by simp at h)) (fun h => (by simp at h)) (by rw [thM_iff]; simp [fullM, hgk.out, hgv.out, hgp.out])) h)), gb3⟩
  · have hc1 := hp_cell hz1
    cases b
    · have HB := Lib.hid (show ¬ BaseM _ from fun h => by have := hbB.2 h; cases this)
      clear hbB
      go_wp2
      all_goals go_ret
      all_goals exact ⟨congrArg (fun v => Ending.returned (Value.int .i64 v)) (HC.out 1 (fun h => absurd (base_of h) HB.out) (fun _ => rfl)), hb1⟩
    have HB := Lib.hid (hbB.1 rfl)
    clear hbB
    by_cases hone : 1 ≤ n
    rotate_left
    · go_wp2
      all_goals go_ret
      all_goals exact ⟨congrArg (fun v => Ending.returned (Value.int .i64 v)) (HC.out 1 (fun h => absurd (h.nu.one (by simp)) (by show ¬ (1 ≤ n); omega)) (fun _ => rfl)), hb1⟩
    by_cases hgks : (∀ x ∈ K, goodK x) ∧ 1 ≤ K.length ∧ K.length ≤ 8
    rotate_left
    · have Hgks := Lib.hid (show ∀ W', LsS W' kp kq K → Calls Try.prog 38 #[.slice kp K.length kq] W' fun e w' => e = .returned (.bool false) ∧ Below W'.heap.size W' w' from fun W' hl => by have := c_goodKeys W' kp kq K hl HKn.out; rwa [show decide ((∀ x ∈ K, goodK x) ∧ 1 ≤ K.length ∧ K.length ≤ 8) = false from by rw [decide_eq_false_iff_not]; exact hgks] at this)
      replace hgks := Lib.hid hgks
      go_wp2_with fail
      refine (Hgks.out _ (HKK.out.below hb1)).mono ?_; rintro e v1 ⟨rfl, g1⟩
      have gb1 := below_call hb1 g1
      have gz1 := hp_below g1 hz1
      have gc1 := hp_cell gz1
      clear hc1 g1
      go_wp2
      all_goals go_ret
      all_goals exact ⟨congrArg (fun v => Ending.returned (Value.int .i64 v)) (HC.out 1 (fun h => absurd (h.th.K rfl) hgks.out) (fun _ => rfl)), gb1⟩
    have Hgks := Lib.hid (show ∀ W', LsS W' kp kq K → Calls Try.prog 38 #[.slice kp K.length kq] W' fun e w' => e = .returned (.bool true) ∧ Below W'.heap.size W' w' from fun W' hl => by have := c_goodKeys W' kp kq K hl HKn.out; rwa [show decide ((∀ x ∈ K, goodK x) ∧ 1 ≤ K.length ∧ K.length ≤ 8) = true from by rw [decide_eq_true_eq]; exact hgks] at this)
    replace hgks := Lib.hid hgks
    go_wp2_with fail
    refine (Hgks.out _ (HKK.out.below hb1)).mono ?_; rintro e v1 ⟨rfl, g1⟩
    have gb1 := below_call hb1 g1
    have gz1 := hp_below g1 hz1
    have gc1 := hp_cell gz1
    clear hc1 g1
    go_wp2
    all_goals go_ret
    all_goals exact ⟨congrArg (fun v => Ending.returned (Value.int .i64 v)) (HC.out 0 (fun _ => rfl) (fun h => absurd (okM_of HB.out (fun h => (by simp at h)) (fun h => (by simp at h)) (fun h => (by show 1 ≤ n; omega)) (by rw [thM_iff]; simp [fullM, hgks.out]; (try exact hgks.out.1))) h)), gb1⟩
  · have hc1 := hp_cell hz1
    cases b
    · have HB := Lib.hid (show ¬ BaseM _ from fun h => by have := hbB.2 h; cases this)
      clear hbB
      go_wp2
      all_goals go_ret
      all_goals exact ⟨congrArg (fun v => Ending.returned (Value.int .i64 v)) (HC.out 1 (fun h => absurd (base_of h) HB.out) (fun _ => rfl)), hb1⟩
    have HB := Lib.hid (hbB.1 rfl)
    clear hbB
    by_cases hone : 1 ≤ n
    rotate_left
    · go_wp2
      all_goals go_ret
      all_goals exact ⟨congrArg (fun v => Ending.returned (Value.int .i64 v)) (HC.out 1 (fun h => absurd (h.nu.one (by simp)) (by show ¬ (1 ≤ n); omega)) (fun _ => rfl)), hb1⟩
    go_wp2
    all_goals go_ret
    all_goals exact ⟨congrArg (fun v => Ending.returned (Value.int .i64 v)) (HC.out 0 (fun _ => rfl) (fun h => absurd (okM_of HB.out (fun h => (by simp at h)) (fun h => (by simp at h)) (fun h => (by show 1 ≤ n; omega)) (by rw [thM_iff]; simp [fullM])) h)), hb1⟩
  · have hc1 := hp_cell hz1
    cases b
    · have HB := Lib.hid (show ¬ BaseM _ from fun h => by have := hbB.2 h; cases this)
      clear hbB
      go_wp2
      all_goals go_ret
      all_goals exact ⟨congrArg (fun v => Ending.returned (Value.int .i64 v)) (HC.out 1 (fun h => absurd (base_of h) HB.out) (fun _ => rfl)), hb1⟩
    have HB := Lib.hid (hbB.1 rfl)
    clear hbB
    by_cases hinc : 1 ≤ inc ∧ inc ≤ 2147483647
    rotate_left
    · have Hinc := Lib.hid (show ∀ W', Calls Try.prog 32 #[.int .i64 inc, .int .i64 1, .int .i64 2147483647] W' fun e w' => e = .returned (.bool false) ∧ W' = w' from fun W' => by have := c_in inc 1 2147483647 W'; rwa [show decide (1 ≤ inc ∧ inc ≤ 2147483647) = false from by rw [decide_eq_false_iff_not]; exact hinc] at this)
      replace hinc := Lib.hid hinc
      go_wp2_with fail
      refine (Hinc.out _).mono ?_; rintro e w5 ⟨rfl, rfl⟩
      go_wp2
      all_goals go_ret
      all_goals exact ⟨congrArg (fun v => Ending.returned (Value.int .i64 v)) (HC.out 1 (fun h => absurd (h.nu.inc (by simp)) hinc.out) (fun _ => rfl)), hb1⟩
    have Hinc := Lib.hid (show ∀ W', Calls Try.prog 32 #[.int .i64 inc, .int .i64 1, .int .i64 2147483647] W' fun e w' => e = .returned (.bool true) ∧ W' = w' from fun W' => by have := c_in inc 1 2147483647 W'; rwa [show decide (1 ≤ inc ∧ inc ≤ 2147483647) = true from by rw [decide_eq_true_eq]; exact hinc] at this)
    replace hinc := Lib.hid hinc
    go_wp2_with fail
    refine (Hinc.out _).mono ?_; rintro e w5 ⟨rfl, rfl⟩
    go_wp2
    all_goals go_ret
    all_goals exact ⟨congrArg (fun v => Ending.returned (Value.int .i64 v)) (HC.out 0 (fun _ => rfl) (fun h => absurd (okM_of HB.out (fun h => (by simp at h)) (fun h => hinc.out) (fun h => (by simp at h)) (by rw [thM_iff]; simp [fullM])) h)), hb1⟩
  · have hc1 := hp_cell hz1
    cases b
    · have HB := Lib.hid (show ¬ BaseM _ from fun h => by have := hbB.2 h; cases this)
      clear hbB
      go_wp2
      all_goals go_ret
      all_goals exact ⟨congrArg (fun v => Ending.returned (Value.int .i64 v)) (HC.out 1 (fun h => absurd (base_of h) HB.out) (fun _ => rfl)), hb1⟩
    have HB := Lib.hid (hbB.1 rfl)
    clear hbB
    by_cases hinc : 1 ≤ inc ∧ inc ≤ 2147483647
    rotate_left
    · have Hinc := Lib.hid (show ∀ W', Calls Try.prog 32 #[.int .i64 inc, .int .i64 1, .int .i64 2147483647] W' fun e w' => e = .returned (.bool false) ∧ W' = w' from fun W' => by have := c_in inc 1 2147483647 W'; rwa [show decide (1 ≤ inc ∧ inc ≤ 2147483647) = false from by rw [decide_eq_false_iff_not]; exact hinc] at this)
      replace hinc := Lib.hid hinc
      go_wp2_with fail
      refine (Hinc.out _).mono ?_; rintro e w5 ⟨rfl, rfl⟩
      go_wp2
      all_goals go_ret
      all_goals exact ⟨congrArg (fun v => Ending.returned (Value.int .i64 v)) (HC.out 1 (fun h => absurd (h.nu.inc (by simp)) hinc.out) (fun _ => rfl)), hb1⟩
    have Hinc := Lib.hid (show ∀ W', Calls Try.prog 32 #[.int .i64 inc, .int .i64 1, .int .i64 2147483647] W' fun e w' => e = .returned (.bool true) ∧ W' = w' from fun W' => by have := c_in inc 1 2147483647 W'; rwa [show decide (1 ≤ inc ∧ inc ≤ 2147483647) = true from by rw [decide_eq_true_eq]; exact hinc] at this)
    replace hinc := Lib.hid hinc
    go_wp2_with fail
    refine (Hinc.out _).mono ?_; rintro e w5 ⟨rfl, rfl⟩
    go_wp2
    all_goals go_ret
    all_goals exact ⟨congrArg (fun v => Ending.returned (Value.int .i64 v)) (HC.out 0 (fun _ => rfl) (fun h => absurd (okM_of HB.out (fun h => (by simp at h)) (fun h => hinc.out) (fun h => (by simp at h)) (by rw [thM_iff]; simp [fullM])) h)), hb1⟩

theorem c_rcheck (m : Mg) (wp : Option Addr) (wq : Nat) (kp : Option Addr) (kq : Nat) (w : World) (hW : LsW w wp wq m.W) (hWn : m.W.length ≤ 9223372036854775807) (hK : LsS w kp kq m.K) (hKn : m.K.length ≤ 9223372036854775807) :
    Calls Try.prog 13 #[.agg (m.cs wp wq kp kq)] w fun e w' => e = .returned (.int .i64 (chkM m)) ∧ Below w.heap.size w w' := by
  obtain ⟨kind, node, inc, ses, tx, seq, key, lo, hi, has, data, hit, err, n, W, K⟩ := m
  exact c_rcheckR kind node inc ses tx seq lo hi err n key data has hit W K wp kp wq kq w hW hK hWn hKn

end Go.Proofs.Ytiklpifaaogcpaa
