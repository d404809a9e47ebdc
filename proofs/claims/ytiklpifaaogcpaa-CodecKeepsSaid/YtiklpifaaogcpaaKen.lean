/- Texts laid together: Kc Ken. -/
import Derived.Test.YtiklpifaaogcpaaKb3
import Derived.Test.YtiklpifaaogcpaaKe
import Derived.Test.YtiklpifaaogcpaaKx
import Derived.Test.YtiklpifaaogcpaaKn2
import Derived.Test.YtiklpifaaogcpaaKg
import Derived.WalkKit
import Derived.WalkLawsBesides
import Derived.WalkSpells
import Derived.Below
import Derived.Deep.RegionHeld3
import Derived.Deep.QuietTactic
import Derived.BigQuiet
import Derived.Deep.DeepCutAuto
import Derived.Deep.DeepMust
import Derived.KernelRfl
import Derived.Lib.Hide
import Derived.Outline
import Derived.RegionTactic
import Derived.StillTailTactics
import Derived.Laws.IdiomStrings
import Derived.Handy
namespace Go.Proofs.Ytiklpifaaogcpaa
open Go.RowKit Go.Cl Go.Wr Go.Kc
set_option maxRecDepth 100000
set_option linter.unusedVariables false
set_option linter.unusedSimpArgs false


theorem encW_src {w : World} {a : Addr} {c : Nat} {L : List Wt} (h : LsW w (some a) c L) : ∀ j u, (L.flatMap encW)[j]? = some u → w.cell? (a.add j) = some u := by
  intro j u hj
  have hl : (L.flatMap encW).length = L.length * 3 := encW_ok.length L
  obtain ⟨hjl, hju⟩ := List.getElem?_eq_some_iff.1 hj
  have hk : j / 3 < L.length := by omega
  obtain ⟨b, o, e, _, h1, h2, h3⟩ := h.at_ (j / 3) _ (List.getElem?_eq_getElem hk)
  obtain rfl : a = ⟨b, o, none⟩ := by simpa using e
  rw [Addr.add_lit]
  have ho := encW_ok.get L (j / 3) (j % 3) hk (by omega)
  have hjj : j / 3 * 3 + j % 3 = j := by omega
  rw [hjj, hj] at ho
  rcases (by omega : j % 3 = 0 ∨ j % 3 = 1 ∨ j % 3 = 2) with hm | hm | hm
  · rw [hm] at ho hjj
    rw [show o + j = o + j / 3 * 3 by omega, h1]
    simpa [encW] using ho.symm
  · rw [hm] at ho hjj
    rw [show o + j = o + j / 3 * 3 + 1 by omega, h2]
    simpa [encW] using ho.symm
  · rw [hm] at ho hjj
    rw [show o + j = o + j / 3 * 3 + 2 by omega, h3]
    simpa [encW] using ho.symm
set_option maxHeartbeats 2000000 in
theorem c_cloneW (col : Nat → Nat) (w : World) (p : Option Addr) (c : Nat) (L : List Wt) (h : LsW w p c L) (hn : L.length ≤ 1000) :
    Calls Try.prog 17 #[.slice p L.length c] w fun e w' => ∃ p' c', e = .returned (.slice p' L.length c') ∧ Row (paint col w 3) 3 w' 49 3 (.slice p' L.length c') L.length (L.flatMap encW) ∧ Below w.heap.size w w' := by
  have HV := Lib.hid h; clear h
  obtain ⟨n, hnn⟩ : ∃ n, L.length = n := ⟨_, rfl⟩
  rw [hnn] at hn ⊢
  have HN := Lib.hid (And.intro hn hnn)
  clear hn hnn
  have q58 : ∀ (w : World) (a : Option Addr) (n c n' c' : Nat), (binOp .eql 27 (.slice a n c) (.slice none n' c')).run Try.prog w = .ok (.bool a.isNone) w := fun w a n c n' c' => Lib.run_eql_slice_nil w _ _ a n c n' c' Try.underlying27
  cases p with
  | none =>
    have hL : L = [] := by
      cases L with
      | nil => rfl
      | cons a M => obtain ⟨b, o, e, _⟩ := HV.out.at_ 0 a rfl; cases e
    subst hL
    obtain rfl : 0 = n := HN.out.2
    go_enter Try.func17, Try.ntmps17
    go_wp2
    go_ret
    exact ⟨_, _, rfl, Row.nil', Below.refl _ _⟩
  | some a =>
    obtain ⟨i0, hi0, hz0, hz1, hz2⟩ := info_parts Try.info49
    have HZ := Lib.hid (And.intro hi0 (And.intro hz0 (And.intro hz1 hz2)))
    clear hi0 hz0 hz1 hz2
    have hrow : Row (paint col w 3) 3 (w.alloc (.cells #[] 49)) 49 3 (.slice (some ⟨w.heap.size, 0, none⟩) 0 0) 0 [] := by
      refine Row.mk' (cur := #[]) (hp_alloc_new w _) (Nat.zero_le _) (by decide) rfl rfl rfl (paint_new (Nat.le_refl _))
    have hb1 : Below w.heap.size w (w.alloc (.cells #[] 49)) := below_alloc (Below.refl _ _) _
    have HR := Lib.hid (And.intro hrow hb1)
    clear hrow hb1
    go_enter Try.func17, Try.ntmps17
    go_wp2_with (at_builtin; refine wpList_append_col rfl (.tmp 5) (.tmp 6) 27 rfl 49 i0 (.agg #[.string ⟨#[]⟩, .bool false, .string ⟨#[]⟩]) 3 40 Try.underlying27 HZ.out.1 HZ.out.2.1 HZ.out.2.2.1 HZ.out.2.2.2 rfl (by decide) _ 0 [] rfl HR.out.1 a n c (L.flatMap encW) rfl (by rw [encW_ok.length, HN.out.2]) (encW_src (HV.out.below HR.out.2)) (encW_ok.ones L) ?c3 ?c4 ?kk)
    case c3 => have := HN.out.1; unfold maxLen; omega
    case c4 => have := HN.out.1; omega
    case kk =>
      intro p' c' w1 hr1 hC hg
      rw [paint_paint HR.out.2.size] at hr1
      have HX := Lib.hid (And.intro hr1 (HR.out.2.grown hg HR.out.2.size (fun k hk => by simp [Value.ownBlock] at hk; omega)))
      clear hr1 hC hg
      go_wp2
      go_ret
      exact ⟨_, _, rfl, by simpa using HX.out.1, HX.out.2⟩

theorem encS_src {w : World} {a : Addr} {c : Nat} {L : List ByteArray} (h : LsS w (some a) c L) : ∀ j u, (L.flatMap encS)[j]? = some u → w.cell? (a.add j) = some u := by
  intro j u hj
  have hl : (L.flatMap encS).length = L.length * 1 := encS_ok.length L
  obtain ⟨hjl, hju⟩ := List.getElem?_eq_some_iff.1 hj
  have hk : j < L.length := by omega
  obtain ⟨b, o, e, _, h1⟩ := h.at_ j _ (List.getElem?_eq_getElem hk)
  obtain rfl : a = ⟨b, o, none⟩ := by simpa using e
  rw [Addr.add_lit]
  have ho := encS_ok.get L j 0 hk (by omega)
  rw [show j * 1 + 0 = j by omega, hj] at ho
  rw [h1]
  simpa [encS] using ho.symm
set_option maxHeartbeats 2000000 in
theorem c_cloneK (col : Nat → Nat) (w : World) (p : Option Addr) (c : Nat) (L : List ByteArray) (h : LsS w p c L) (hn : L.length ≤ 1000) :
    Calls Try.prog 18 #[.slice p L.length c] w fun e w' => ∃ p' c', e = .returned (.slice p' L.length c') ∧ Row (paint col w 5) 5 w' 9 1 (.slice p' L.length c') L.length (L.flatMap encS) ∧ Below w.heap.size w w' := by
  have HV := Lib.hid h; clear h
  obtain ⟨n, hnn⟩ : ∃ n, L.length = n := ⟨_, rfl⟩
  rw [hnn] at hn ⊢
  have HN := Lib.hid (And.intro hn hnn)
  clear hn hnn
  have q58 : ∀ (w : World) (a : Option Addr) (n c n' c' : Nat), (binOp .eql 28 (.slice a n c) (.slice none n' c')).run Try.prog w = .ok (.bool a.isNone) w := fun w a n c n' c' => Lib.run_eql_slice_nil w _ _ a n c n' c' Try.underlying28
  cases p with
  | none =>
    have hL : L = [] := by
      cases L with
      | nil => rfl
      | cons a M => obtain ⟨b, o, e, _⟩ := HV.out.at_ 0 a rfl; cases e
    subst hL
    obtain rfl : 0 = n := HN.out.2
    go_enter Try.func18, Try.ntmps18
    go_wp2
    go_ret
    exact ⟨_, _, rfl, Row.nil', Below.refl _ _⟩
  | some a =>
    obtain ⟨i0, hi0, hz0, hz1, hz2⟩ := info_parts Try.info9
    have HZ := Lib.hid (And.intro hi0 (And.intro hz0 (And.intro hz1 hz2)))
    clear hi0 hz0 hz1 hz2
    have hrow : Row (paint col w 5) 5 (w.alloc (.cells #[] 9)) 9 1 (.slice (some ⟨w.heap.size, 0, none⟩) 0 0) 0 [] := by
      refine Row.mk' (cur := #[]) (hp_alloc_new w _) (Nat.zero_le _) (by decide) rfl rfl rfl (paint_new (Nat.le_refl _))
    have hb1 : Below w.heap.size w (w.alloc (.cells #[] 9)) := below_alloc (Below.refl _ _) _
    have HR := Lib.hid (And.intro hrow hb1)
    clear hrow hb1
    go_enter Try.func18, Try.ntmps18
    go_wp2_with (at_builtin; refine wpList_append_col rfl (.tmp 5) (.tmp 6) 28 rfl 9 i0 (.string ⟨#[]⟩) 1 16 Try.underlying28 HZ.out.1 HZ.out.2.1 HZ.out.2.2.1 HZ.out.2.2.2 rfl (by decide) _ 0 [] rfl HR.out.1 a n c (L.flatMap encS) rfl (by rw [encS_ok.length, HN.out.2]) (encS_src (HV.out.below HR.out.2)) (encS_ok.ones L) ?c3 ?c4 ?kk)
    case c3 => have := HN.out.1; unfold maxLen; omega
    case c4 => have := HN.out.1; omega
    case kk =>
      intro p' c' w1 hr1 hC hg
      rw [paint_paint HR.out.2.size] at hr1
      have HX := Lib.hid (And.intro hr1 (HR.out.2.grown hg HR.out.2.size (fun k hk => by simp [Value.ownBlock] at hk; omega)))
      clear hr1 hC hg
      go_wp2
      go_ret
      exact ⟨_, _, rfl, by simpa using HX.out.1, HX.out.2⟩

end Go.Proofs.Ytiklpifaaogcpaa

namespace Go.Proofs.Ytiklpifaaogcpaa
open Go.RowKit Go.Cl Go.Wr Go.Kc
set_option maxRecDepth 100000
set_option linter.unusedVariables false
set_option linter.unusedSimpArgs false


/-- What a clone leaves. -/
def GC (w0 : World) (L : List Wt) (K : List ByteArray) (e : Nat) (v : Value) (W : World) : Prop :=
  if e = 2 then ∃ p c, v = .slice p L.length c ∧ Row (paint zc w0 3) 3 W 49 3 v L.length (L.flatMap encW) else ∃ p c, v = .slice p K.length c ∧ Row (paint zc w0 5) 5 W 9 1 v K.length (K.flatMap encS)
theorem GC_mono (w0 : World) (L : List Wt) (K : List ByteArray) : ∀ e v, Ph.Mono1 (GC w0 L K e v) := by
  intro e v w1 w2 h hb
  unfold GC at h ⊢
  split
  · rw [if_pos (by assumption)] at h
    obtain ⟨p, c, h1, h2⟩ := h
    exact ⟨p, c, h1, h2.kept (Mv.of_below (S := []) hb) (by simp)⟩
  · rw [if_neg (by assumption)] at h
    obtain ⟨p, c, h1, h2⟩ := h
    exact ⟨p, c, h1, h2.kept (Mv.of_below (S := []) hb) (by simp)⟩
theorem row_new {w0 : World} {i : Nat} (hi : i ≠ 0) {w : World} {e : TypeId} {s n : Nat} {v : Value} {xs : List Value} (h : Row (paint zc w0 i) i w e s v n xs) {g : Nat} (hg : v.ownBlock = some g) : w0.heap.size ≤ g := by
  have h1 := h.col g hg
  rcases Nat.lt_or_ge g w0.heap.size with hl | hl
  · rw [paint_old hl] at h1; exact absurd h1.symm hi
  · exact hl
theorem chk_zero {m : Mg} (h : chkM m = 0) : (1 ≤ m.kind ∧ m.kind ≤ 11) ∧ OkM m := by
  unfold chkM at h
  split at h
  · refine ⟨by assumption, ?_⟩
    split at h
    · assumption
    · cases h
  · cases h
theorem chk_len {m : Mg} (h : chkM m = 0) : (m.kind = 1 → 1 ≤ m.W.length ∧ m.W.length ≤ 8) ∧ (m.kind = 8 → 1 ≤ m.K.length ∧ m.K.length ≤ 8) ∧ m.W.length ≤ 8 ∧ m.K.length ≤ 8 := by
  obtain ⟨hk, ho⟩ := chk_zero h
  refine ⟨fun h1 => (ho.th.W h1).2, fun h1 => (ho.th.K h1).2, ?_, ?_⟩
  · rcases ho.un.W with h1 | h1
    · omega
    · exact (ho.th.W h1).2.2
  · rcases ho.un.K with h1 | h1
    · omega
    · exact (ho.th.K h1).2.2
theorem row_ty {col : Nat → Nat} {i : Nat} {w : World} {e : TypeId} {s n : Nat} {v : Value} {xs : List Value} (h : Row col i w e s v n xs) {g : Nat} (hg : v.ownBlock = some g) : ∃ cur, w.heap[g]? = some (.cells cur e (0, 0)) := by
  rcases h.own.2 with ⟨rfl, _⟩ | ⟨g', cap, cur, rfl, _, hgg, _⟩
  · cases hg
  · simp [Value.ownBlock] at hg
    subst hg
    exact ⟨cur, hgg⟩
theorem below_mv {S : List Nat} {c c' : Nat → Nat} {w W W' : World} (hb : Below w.heap.size w W) (hm : Mv S c W c' W') (h0 : ∀ k, k < w.heap.size → c k ∉ S) : Below w.heap.size w W' :=
  ⟨hm.os.trans hb.os, hm.tape.trans hb.tape, hm.output.trans hb.output, Nat.le_trans hb.size hm.size, fun k hk => (hm.block k (Nat.lt_of_lt_of_le hk hb.size) (h0 k hk)).trans (hb.block k hk)⟩
set_option maxHeartbeats 4000000 in
theorem c_encodeR (kind node inc ses tx seq lo hi err n : Int) (key data : ByteArray) (has hit : Bool) (W : List Wt) (K : List ByteArray) (wp kp : Option Addr) (wq kq : Nat) (w : World) (hIn : Mg.In ⟨kind, node, inc, ses, tx, seq, key, lo, hi, has, data, hit, err, n, W, K⟩) (hW : LsW w wp wq W) (hWn : W.length ≤ 9223372036854775807) (hK : LsS w kp kq K) (hKn : K.length ≤ 9223372036854775807) :
    Calls Try.prog 10 #[.agg #[.int .i64 kind, .int .i64 node, .int .i64 inc, .int .i64 ses, .int .i64 tx, .int .i64 seq, .string key, .int .i64 lo, .int .i64 hi, .bool has, .string data, .bool hit, .int .i64 err, .int .i64 n, .slice wp W.length wq, .slice kp K.length kq]] w fun e w' => (chkM ⟨kind, node, inc, ses, tx, seq, key, lo, hi, has, data, hit, err, n, W, K⟩ = 0 → e = .returned (.tuple #[.string ⟨(encM ⟨kind, node, inc, ses, tx, seq, key, lo, hi, has, data, hit, err, n, W, K⟩).toArray⟩, .int .i64 0])) ∧ (chkM ⟨kind, node, inc, ses, tx, seq, key, lo, hi, has, data, hit, err, n, W, K⟩ ≠ 0 → e = .returned (.tuple #[.string ⟨#[]⟩, .int .i64 (chkM ⟨kind, node, inc, ses, tx, seq, key, lo, hi, has, data, hit, err, n, W, K⟩)])) ∧ Below w.heap.size w w' := by
  have hb0 : Below w.heap.size w (w.alloc (.cells #[.int .i64 kind, .int .i64 node, .int .i64 inc, .int .i64 ses, .int .i64 tx, .int .i64 seq, .string key, .int .i64 lo, .int .i64 hi, .bool has, .string data, .bool hit, .int .i64 err, .int .i64 n, .slice wp W.length wq, .slice kp K.length kq] 30)) := below_alloc (Below.refl _ _) _
  have hz0 := hp_alloc_new w (.cells #[.int .i64 kind, .int .i64 node, .int .i64 inc, .int .i64 ses, .int .i64 tx, .int .i64 seq, .string key, .int .i64 lo, .int .i64 hi, .bool has, .string data, .bool hit, .int .i64 err, .int .i64 n, .slice wp W.length wq, .slice kp K.length kq] 30)
  have HC := Lib.hid (c_checkR kind node inc ses tx seq lo hi err n key data has hit W K wp kp wq kq (w.alloc (.cells #[.int .i64 kind, .int .i64 node, .int .i64 inc, .int .i64 ses, .int .i64 tx, .int .i64 seq, .string key, .int .i64 lo, .int .i64 hi, .bool has, .string data, .bool hit, .int .i64 err, .int .i64 n, .slice wp W.length wq, .slice kp K.length kq] 30)) (hW.below hb0) hWn (hK.below hb0) hKn)
  have HW := Lib.hid (hW.below hb0)
  have HK := Lib.hid (hK.below hb0)
  clear hW hK hWn hKn
  have HCZ : Hid (∀ c, chkM ⟨kind, node, inc, ses, tx, seq, key, lo, hi, has, data, hit, err, n, W, K⟩ = c → c = 0 → _) := Lib.hid fun c h1 h2 => chk_zero (h1.trans h2)
  have HLZ : Hid (∀ c, chkM ⟨kind, node, inc, ses, tx, seq, key, lo, hi, has, data, hit, err, n, W, K⟩ = c → c = 0 → _) := Lib.hid fun c h1 h2 => chk_len (h1.trans h2)
  by_cases hc : chkM ⟨kind, node, inc, ses, tx, seq, key, lo, hi, has, data, hit, err, n, W, K⟩ = 0
  rotate_left
  · have hne : ¬ chkM ⟨kind, node, inc, ses, tx, seq, key, lo, hi, has, data, hit, err, n, W, K⟩ = 0 := hc
    generalize chkM ⟨kind, node, inc, ses, tx, seq, key, lo, hi, has, data, hit, err, n, W, K⟩ = cc at *
    have HB0 := Lib.hid hb0
    have hcn : (cc != 0) = true := by simpa using hne
    clear hb0 hz0 HCZ HLZ hc
    have HNE := Lib.hid hne; clear hne
    go_enter Try.func10, Try.ntmps10
    go_wp2_with fail
    refine HC.out.mono ?_; rintro e w1 ⟨rfl, hb1⟩
    go_wp2
    go_ret2
    exact ⟨fun h => absurd h HNE.out, fun _ => rfl, below_call HB0.out hb1⟩
  have HOK := Lib.hid (HLZ.out 0 hc rfl)
  have HKD := Lib.hid (HCZ.out 0 hc rfl)
  have HHC := Lib.hid hc
  rw [hc] at HC
  clear HCZ HLZ hc
  have HI := Lib.hid hIn; clear hIn
  go_enter Try.func10, Try.ntmps10
  go_wp2_with fail
  refine HC.out.mono ?_; rintro e w1 ⟨rfl, hb1⟩
  have hz1 := hp_below hb1 hz0
  have HBB := Lib.hid (below_call hb0 hb1)
  have HW1 := Lib.hid (HW.out.below hb1)
  have HK1 := Lib.hid (HK.out.below hb1)
  have HSZ : Hid (w.heap.size < w1.heap.size) := Lib.hid (hp_lt hz1)
  clear hb0 hz0 hb1 HW HK HC
  have c14 : w1.cell? ⟨w.heap.size, 14, none⟩ = some (.slice wp W.length wq) := hp_cell hz1 14
  have c15 : w1.cell? ⟨w.heap.size, 15, none⟩ = some (.slice kp K.length kq) := hp_cell hz1 15
  have HZ1 := Lib.hid hz1; clear hz1
  generalize hb : w.heap.size = b1 at *
  have HB := Lib.hid hb; clear hb
  go_wp2
  refine Ph.region_at (by kernel_rfl) ?_
  refine Ph.at_two 6 2 5 13 16 (GC w1 W K) (GC_mono w1 W K) (by kernel_rfl) (by kernel_rfl) (by kernel_rfl) (by decide) (by decide) (by decide) (by decide) rfl rfl ?_
  simp only [List.take_succ_cons, List.take_zero, List.drop_succ_cons, List.drop_zero]
  refine Ph.wpM_g (by decide) (fun wx hS0 => by go_simp; first | exact rfl | exact ⟨rfl, Below.refl _ _⟩) ?_
  simp only [Act.put, List.setIfInBounds_toArray, List.set_cons_zero, List.set_cons_succ]
  refine Ph.wpM_g (by decide) (fun wx hS0 => by have hbq := below_call (below_drew (Below.refl w1.heap.size w1)) hS0; have cq := cell_below hbq c14; go_simp; first | exact rfl | exact ⟨rfl, Below.refl _ _⟩) ?_
  simp only [Act.put, List.setIfInBounds_toArray, List.set_cons_zero, List.set_cons_succ]
  refine Ph.wpM_e (by decide) (by rfl) (fun wx hS0 => ?_) ?_
  · have hbq := below_call (below_drew (Below.refl w1.heap.size w1)) hS0
    have HQ := Lib.hid hbq; clear hbq hS0 c14 c15
    go_simp
    refine (c_cloneW zc wx wp wq W (HW1.out.below HQ.out) (by have := HOK.out.2.2.1; omega)).mono ?_
    rintro e w4 ⟨p', c', rfl, hr, hb⟩
    refine ⟨_, rfl, hb, ?_⟩
    unfold GC
    rw [if_pos rfl]
    exact ⟨p', c', rfl, hr.recol fun g hg => paint_new (Nat.le_trans HQ.out.size (row_new (by decide) hr hg))⟩
  refine Ph.wpM_g (by decide) (fun wx hS0 => by go_simp; first | exact rfl | exact ⟨rfl, Below.refl _ _⟩) ?_
  simp only [Act.put, List.setIfInBounds_toArray, List.set_cons_zero, List.set_cons_succ]
  refine Ph.wpM_g (by decide) (fun wx hS0 => by have hbq := below_call (below_drew (Below.refl w1.heap.size w1)) hS0; have cq := cell_below hbq c15; go_simp; first | exact rfl | exact ⟨rfl, Below.refl _ _⟩) ?_
  simp only [Act.put, List.setIfInBounds_toArray, List.set_cons_zero, List.set_cons_succ]
  refine Ph.wpM_e (by decide) (by rfl) (fun wx hS0 => ?_) ?_
  · have hbq := below_call (below_drew (Below.refl w1.heap.size w1)) hS0
    have HQ := Lib.hid hbq; clear hbq hS0 c14 c15
    go_simp
    refine (c_cloneK zc wx kp kq K (HK1.out.below HQ.out) (by have := HOK.out.2.2.2; omega)).mono ?_
    rintro e w4 ⟨p', c', rfl, hr, hb⟩
    refine ⟨_, rfl, hb, ?_⟩
    unfold GC
    rw [if_neg (by decide)]
    exact ⟨p', c', rfl, hr.recol fun g hg => paint_new (Nat.le_trans HQ.out.size (row_new (by decide) hr hg))⟩
  refine Ph.wpM_nil ?_; intro u1 u2 w2 hS2 hu1 hu2
  simp only [Act.put, List.setIfInBounds_toArray, List.set_cons_zero, List.set_cons_succ]
  have hbq := below_call (below_drew (Below.refl w1.heap.size w1)) hS2
  obtain ⟨p1, c1, rfl, hr1⟩ : ∃ p c, u1 = .slice p W.length c ∧ Row (paint zc w1 3) 3 w2 49 3 u1 W.length (W.flatMap encW) := by unfold GC at hu1; rw [if_pos rfl] at hu1; exact hu1
  obtain ⟨p2, c2, rfl, hr2⟩ : ∃ p c, u2 = .slice p K.length c ∧ Row (paint zc w1 5) 5 w2 9 1 u2 K.length (K.flatMap encS) := by unfold GC at hu2; rw [if_neg (by decide)] at hu2; exact hu2
  have hz2 := hp_below hbq HZ1.out
  have HR := Lib.hid (And.intro hr1 hr2)
  have HB2 : Hid (Below b1 w w2) := Lib.hid (by have h : Below w.heap.size w w1 := (by rw [HB.out]; exact HBB.out); have h2 := below_call h hbq; rw [HB.out] at h2; exact h2)
  clear hu1 hu2 hr1 hr2 hS2 hbq c14 c15
  have cz := hp_cell hz2
  have fz := hp_free hz2
  have HZ2 := Lib.hid hz2; clear hz2
  refine Ph.at_op rfl (by kernel_rfl) ?_
  go_wp2
  refine Ph.at_op rfl (by kernel_rfl) ?_
  go_wp2
  refine Ph.at_op rfl (by kernel_rfl) ?_
  go_wp2
  refine Ph.at_op rfl (by kernel_rfl) ?_
  go_wp2
  refine Ph.at_end (by simp) ?_
  have n1 : b1 < w1.heap.size := HSZ.out
  have n3 : ∀ g, (Value.slice p1 W.length c1).ownBlock = some g → w1.heap.size ≤ g := fun g hg => row_new (by decide) HR.out.1 hg
  have n5 : ∀ g, (Value.slice p2 K.length c2).ownBlock = some g → w1.heap.size ≤ g := fun g hg => row_new (by decide) HR.out.2 hg
  have n35 : ∀ g, (Value.slice p1 W.length c1).ownBlock = some g → (Value.slice p2 K.length c2).ownBlock = some g → False := fun g h1 h2 => by
    obtain ⟨x, hx⟩ := row_ty HR.out.1 h1
    obtain ⟨y, hy⟩ := row_ty HR.out.2 h2
    rw [hx] at hy; injection hy with e; injection e with _ e _; cases e
  obtain ⟨cE, hcE⟩ : ∃ cE : Nat → Nat, cE = fun k => if k = b1 then 2 else if (Value.slice p1 W.length c1).ownBlock = some k then 3 else if (Value.slice p2 K.length c2).ownBlock = some k then 5 else 0 := ⟨_, rfl⟩
  have e2 : cE b1 = 2 := by rw [hcE]; simp
  have e3 : ∀ g, (Value.slice p1 W.length c1).ownBlock = some g → cE g = 3 := fun g hg => by
    have := n3 g hg
    rw [hcE]; show (if g = b1 then 2 else _) = 3
    rw [if_neg (by omega), if_pos hg]
  have e5 : ∀ g, (Value.slice p2 K.length c2).ownBlock = some g → cE g = 5 := fun g hg => by
    have := n5 g hg
    rw [hcE]; show (if g = b1 then 2 else _) = 5
    rw [if_neg (by omega), if_neg (fun h => n35 g h hg), if_pos hg]
  have e0 : ∀ k, k < b1 → cE k = 0 := fun k hk => by
    rw [hcE]; show (if k = b1 then 2 else _) = 0
    rw [if_neg (by omega), if_neg (fun h => by have := n3 k h; omega), if_neg (fun h => by have := n5 k h; omega)]
  have hst : Mv [2] cE w2 cE ((w2.setCell ⟨b1, 14, none⟩ (.slice p1 W.length c1)).setCell ⟨b1, 15, none⟩ (.slice p2 K.length c2)) := mv_set (mv_set Mv.refl (p := ⟨b1, 14, none⟩) (by show cE b1 ∈ _; rw [e2]; simp) _) (p := ⟨b1, 15, none⟩) (by show cE b1 ∈ _; rw [e2]; simp) _
  have hMsg : MsgAt cE ((w2.setCell ⟨b1, 14, none⟩ (.slice p1 W.length c1)).setCell ⟨b1, 15, none⟩ (.slice p2 K.length c2)) b1 ⟨kind, node, inc, ses, tx, seq, key, lo, hi, has, data, hit, err, n, W, K⟩ :=
    ⟨p1, c1, p2, c2, ⟨hp_set (hp_set HZ2.out _) _, e2⟩, (HR.out.1.recol e3).kept hst (by decide), (HR.out.2.recol e5).kept hst (by decide)⟩
  have HB3 : Hid (Below b1 w ((w2.setCell ⟨b1, 14, none⟩ (.slice p1 W.length c1)).setCell ⟨b1, 15, none⟩ (.slice p2 K.length c2))) := Lib.hid (below_setB (below_setB HB2.out (p := ⟨b1, 14, none⟩) (Nat.le_refl _) _) (p := ⟨b1, 15, none⟩) (Nat.le_refl _) _)
  have HE0 := Lib.hid e0
  clear n3 n5 n35 hcE e2 e3 e5 e0 hst cz fz HZ2 HB2 HR HW1 HK1 HZ1
  generalize (w2.setCell ⟨b1, 14, none⟩ (.slice p1 W.length c1)).setCell ⟨b1, 15, none⟩ (.slice p2 K.length c2) = W3 at *
  have hbA : Below W3.heap.size W3 (W3.alloc (.cells #[.slice none 0 0] 59)) := below_alloc (Below.refl _ _) _
  have HWr : Hid (Wri (paint cE W3 1) 1 (W3.alloc (.cells #[.slice none 0 0] 59)) W3.heap.size []) := Lib.hid ⟨.slice none 0 0, ⟨hp_alloc_new _ _, paint_new (Nat.le_refl _)⟩, Row.nil'⟩
  have HMs := Lib.hid (hMsg.kept (Mv.new (S := []) hbA 1) (by simp) (by simp) (by simp))
  have HB4 : Hid (Below b1 w (W3.alloc (.cells #[.slice none 0 0] 59)) ∧ ∀ k, k < b1 → paint cE W3 1 k = 0) := Lib.hid ⟨by have h3 := HB3.out; rw [← HB.out] at h3 ⊢; exact below_alloc h3 _, fun k hk => by rw [paint_old (by have := HB3.out.size; have := HB.out; omega)]; exact HE0.out k hk⟩
  clear hbA hMsg HB3 HE0
  generalize hbo : W3.heap.size = bo at *
  generalize paint cE W3 1 = c4 at *
  go_wp2_with fail
  refine (f_kind (outL bo) c4 _ [] b1 ⟨kind, node, inc, ses, tx, seq, key, lo, hi, has, data, hit, err, n, W, K⟩ HWr.out HMs.out HI.out.kind (by show ([] ++ num (zz kind)).length ≤ _; have := encN_le (n := kind) HI.out.kind; unfold encN at this; rw [List.nil_append]; omega)).mono ?_
  rintro e w5 ⟨c5, hm5, ⟨a, hr, rfl, hS5, hM5⟩ | ⟨er, hr, _, _, _⟩⟩
  rotate_left
  · cases hr
  have hr' : kind = a := by injection hr with hr
  subst hr'
  have hout := out_fields ⟨kind, node, inc, ses, tx, seq, key, lo, hi, has, data, hit, err, n, W, K⟩ ([] ++ num (zz kind)) HOK.out.1 HOK.out.2.1 HKD.out.1.1 HKD.out.1.2
  have hle := encF_le ⟨kind, node, inc, ses, tx, seq, key, lo, hi, has, data, hit, err, n, W, K⟩ HI.out HKD.out.2
  have hle1 := encN_le (n := kind) HI.out.kind
  unfold encN at hle1
  have hfit : (fieldsT outO ⟨kind, node, inc, ses, tx, seq, key, lo, hi, has, data, hit, err, n, W, K⟩ ([] ++ num (zz kind))).2.length ≤ 140737488355328 := by
    rw [hout]; simp only [List.nil_append, List.length_append]; omega
  have HO := Lib.hid hout
  have HS5 := Lib.hid hS5
  have HM5 := Lib.hid hM5
  have HFT := Lib.hid hfit
  have HM1 := Lib.hid (Mv.sub (T := [1, 2, 3, 4, 5]) hm5 (by simp))
  clear hout hle hle1 hr hfit hS5 hM5 hm5 HWr HMs
  go_wp2_with fail
  refine (c_fields (outL bo) c5 w5 ([] ++ num (zz kind)) b1 ⟨kind, node, inc, ses, tx, seq, key, lo, hi, has, data, hit, err, n, W, K⟩ HS5.out HM5.out HI.out (And.intro (Nat.le_trans HOK.out.2.2.1 (by decide)) (Nat.le_trans HOK.out.2.2.2 (by decide))) HFT.out).mono ?_
  rintro e w6 ⟨c6, hm6, ⟨y, hr, rfl, hS6, hM6⟩ | ⟨er, hr, _, _, _⟩⟩
  rotate_left
  · have hr2 : (fieldsT outO ⟨kind, node, inc, ses, tx, seq, key, lo, hi, has, data, hit, err, n, W, K⟩ ([] ++ num (zz kind))).1 = .error er := hr
    rw [HO.out] at hr2; cases hr2
  have hS6' : Wri c6 1 w6 bo (fieldsT outO ⟨kind, node, inc, ses, tx, seq, key, lo, hi, has, data, hit, err, n, W, K⟩ ([] ++ num (zz kind))).2 := hS6
  rw [HO.out] at hS6'
  have HD := Lib.hid (wr_data c6 1 w6 bo _ hS6')
  have HBE : Hid (Below b1 w w6) := Lib.hid (by
    have h4 := HB4.out.1
    have h0 := HB4.out.2
    rw [← HB.out] at h4 h0 ⊢
    exact below_mv h4 (HM1.out.trans hm6) (fun k hk => by rw [h0 k hk]; decide))
  clear hr hS6 hM6 hm6 hS6' HS5 HM5
  go_wp2_with fail
  refine HD.out.mono ?_; rintro e w7 ⟨rfl, rfl⟩
  go_wp2
  go_ret2
  refine ⟨fun _ => ?_, fun h => absurd HHC.out h, by rw [HB.out]; exact HBE.out⟩
  simp [encM, encN]

theorem c_encode (m : Mg) (hIn : m.In) (wp : Option Addr) (wq : Nat) (kp : Option Addr) (kq : Nat) (w : World) (hW : LsW w wp wq m.W) (hWn : m.W.length ≤ 9223372036854775807) (hK : LsS w kp kq m.K) (hKn : m.K.length ≤ 9223372036854775807) :
    Calls Try.prog 10 #[.agg (m.cs wp wq kp kq)] w fun e w' => (chkM m = 0 → e = .returned (.tuple #[.string ⟨(encM m).toArray⟩, .int .i64 0])) ∧ (chkM m ≠ 0 → e = .returned (.tuple #[.string ⟨#[]⟩, .int .i64 (chkM m)])) ∧ Below w.heap.size w w' := by
  obtain ⟨kind, node, inc, ses, tx, seq, key, lo, hi, has, data, hit, err, n, W, K⟩ := m
  exact c_encodeR kind node inc ses tx seq lo hi err n key data has hit W K wp kp wq kq w hIn hW hWn hK hKn

end Go.Proofs.Ytiklpifaaogcpaa
