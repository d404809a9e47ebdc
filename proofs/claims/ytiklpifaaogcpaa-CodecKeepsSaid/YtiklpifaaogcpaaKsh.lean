/- Texts laid together: Ksg Ksh. -/
import Derived.Test.YtiklpifaaogcpaaKsb
import Derived.Test.YtiklpifaaogcpaaKsc
import Derived.Test.YtiklpifaaogcpaaKsd
import Derived.Test.YtiklpifaaogcpaaKse
import Derived.Test.YtiklpifaaogcpaaKsf
import Derived.WalkKit
import Derived.WalkLawsBesides
import Derived.WalkSpells
import Derived.Below
import Derived.Deep.RegionHeld3
import Derived.Deep.QuietTactic
import Derived.BigQuiet
import Derived.Deep.DeepCutAuto
import Derived.Deep.DeepMust
import Derived.KernelRfl
import Derived.Lib.Hide
import Derived.Outline
import Derived.RegionTactic
import Derived.StillTailTactics
import Derived.Laws.IdiomStrings
import Derived.Handy
namespace Go.Proofs.Ytiklpifaaogcpaa
open Go.RowKit Go.Cl Go.Wr Go.Kc
set_option maxRecDepth 100000
set_option linter.unusedVariables false
set_option linter.unusedSimpArgs false


def WxInv (w1 : World) (A B : List Wt) (t : Value) (wr : World) : Prop := ∃ j : Nat, t = .int .i64 j ∧ j ≤ A.length ∧ A.take j = B.take j ∧ Below w1.heap.size w1 wr
set_option maxHeartbeats 2000000 in
theorem c_same_eq (w : World) (kind : Int) (node : Int) (inc : Int) (ses : Int) (tx : Int) (seq : Int) (key : ByteArray) (lo : Int) (hi : Int) (has : Bool) (data : ByteArray) (hit : Bool) (err : Int) (n : Int) (W W' : List Wt) (K K' : List ByteArray) (wp kp wp' kp' : Option Addr) (xc yc xc' yc' : Nat) (hw : LsW w wp xc W) (hk : LsS w kp yc K) (hw' : LsW w wp' xc' W') (hk' : LsS w kp' yc' K') (hlw : W.length = W'.length) (hlk : K.length = K'.length) :
    Calls Try.prog 16 #[.agg #[.int .i64 kind, .int .i64 node, .int .i64 inc, .int .i64 ses, .int .i64 tx, .int .i64 seq, .string key, .int .i64 lo, .int .i64 hi, .bool has, .string data, .bool hit, .int .i64 err, .int .i64 n, .slice wp W.length xc, .slice kp K.length yc], .agg #[.int .i64 kind, .int .i64 node, .int .i64 inc, .int .i64 ses, .int .i64 tx, .int .i64 seq, .string key, .int .i64 lo, .int .i64 hi, .bool has, .string data, .bool hit, .int .i64 err, .int .i64 n, .slice wp' W.length xc', .slice kp' K.length yc']] w (RetB (W = W' ∧ K = K') w) := by
  have HW := Lib.hid (And.intro hw hw'); clear hw hw'
  have HK := Lib.hid (And.intro hk hk'); clear hk hk'
  have HC50 := Lib.hid (fun w hk hk' => c_sameTexts w kp kp' yc yc' K K' hk hk')
  rw [← hlk] at HC50
  obtain ⟨NW, hNW⟩ : ∃ N, N = W.length := ⟨_, rfl⟩
  obtain ⟨NK, hNK⟩ : ∃ N, N = K.length := ⟨_, rfl⟩
  rw [← hNW, ← hNK]
  rw [← hNK] at HC50
  have HN := Lib.hid (And.intro (And.intro hNW hNK) (And.intro (hNW.trans hlw) (hNK.trans hlk))); clear hNW hNK hlw hlk
  obtain ⟨A, hA⟩ : ∃ A : Array Value, A = #[.int .i64 kind, .int .i64 node, .int .i64 inc, .int .i64 ses, .int .i64 tx, .int .i64 seq, .string key, .int .i64 lo, .int .i64 hi, .bool has, .string data, .bool hit, .int .i64 err, .int .i64 n, .slice wp NW xc, .slice kp NK yc] := ⟨_, rfl⟩
  obtain ⟨B, hB⟩ : ∃ A : Array Value, A = #[.int .i64 kind, .int .i64 node, .int .i64 inc, .int .i64 ses, .int .i64 tx, .int .i64 seq, .string key, .int .i64 lo, .int .i64 hi, .bool has, .string data, .bool hit, .int .i64 err, .int .i64 n, .slice wp' NW xc', .slice kp' NK yc'] := ⟨_, rfl⟩
  rw [← hA, ← hB]
  have HAB := Lib.hid (And.intro hA hB); clear hA hB
  go_enter Try.func16, Try.ntmps16
  go_step
  go_cut [2, 3] (fun s2 s3 W => s2 = .pointer (some ⟨w.heap.size, 0, none⟩) ∧ s3 = .pointer (some ⟨w.heap.size + 1, 0, none⟩) ∧ hp W w.heap.size = some (.cells A 30 (0, 0)) ∧ hp W (w.heap.size+1) = some (.cells B 30 (0, 0)) ∧ Below w.heap.size w W)
  case first =>
    go_wp2
    go_meet
    refine ⟨rfl, rfl, ?_, ?_, (by (repeat (first | (with_reducible exact Below.refl _ _) | (with_reducible refine below_drew ?_) | (with_reducible refine below_alloc ?_ _))))⟩
    · rw [hpA, hpA, size_al, if_neg (by omega), if_pos rfl]
    · rw [hpA, size_al, if_pos rfl]
  case rest =>
  obtain ⟨rfl, rfl, k1, k3, hBW⟩ := hcut
  rename World => w1
  have HBB := Lib.hid hBW
  have HWW : Hid (LsW w1 wp xc W ∧ LsW w1 wp' xc' W') := Lib.hid ⟨HW.out.1.below hBW, HW.out.2.below hBW⟩
  have HKK : Hid (LsS w1 kp yc K ∧ LsS w1 kp' yc' K') := Lib.hid ⟨HK.out.1.below hBW, HK.out.2.below hBW⟩
  have HFIN : Hid (∀ wr, Below w1.heap.size w1 wr → Below w.heap.size w wr) := Lib.hid fun wr h => below_call hBW h
  clear hBW
  generalize hb1 : w.heap.size = b1 at *
  generalize hb3 : b1 + 1 = b3 at *
  rw [HAB.out.1] at k1
  rw [HAB.out.2] at k3
  have c1 := hp_cell k1
  have c3 := hp_cell k3
  have HCC : Hid (w1.cell? ⟨b1, 14, none⟩ = some (.slice wp NW xc) ∧ w1.cell? ⟨b3, 14, none⟩ = some (.slice wp' NW xc') ∧ w1.cell? ⟨b1, 15, none⟩ = some (.slice kp NK yc) ∧ w1.cell? ⟨b3, 15, none⟩ = some (.slice kp' NK yc')) := Lib.hid ⟨c1 14, c3 14, c1 15, c3 15⟩
  clear k1 k3
  go_wp2
  clear c1 c3
  go_loopw [5] (WxInv w1 W W') (fun t _ => (NW - (intOf t).toNat))
  case atStart => exact ⟨0, rfl, Nat.zero_le _, rfl, Below.refl _ _⟩
  case round =>
    obtain ⟨j, rfl, hj, hg, hb⟩ := hrel
    have HG := Lib.hid hg; clear hg
    have HB := Lib.hid hb; clear hb
    rw [← HN.out.1.1] at hj
    have a12 := cell_below HB.out HCC.out.1
    have b12 := cell_below HB.out HCC.out.2.1
    by_cases hlt : j < NW
    · have hb64 : (j : Int) < 9223372036854775807 := by have := HW.out.1.cap.1; have h2 := HW.out.1.cap.2; rw [← HN.out.1.1] at this; unfold maxLen at h2; omega
      obtain ⟨x, hx⟩ : ∃ x, W[j]? = some x := ⟨W[j]'(by rw [← HN.out.1.1]; exact hlt), List.getElem?_eq_getElem _⟩
      obtain ⟨y, hy⟩ : ∃ y, W'[j]? = some y := ⟨W'[j]'(by rw [← HN.out.2.1]; exact hlt), List.getElem?_eq_getElem _⟩
      obtain ⟨g, o, rfl, hgl, hc0, hc1, hc2⟩ := (HWW.out.1.below HB.out).at_ j x hx
      obtain ⟨g', o', rfl, hgl', hd0, hd1, hd2⟩ := (HWW.out.2.below HB.out).at_ j y hy
      have HX := Lib.hid (And.intro hx hy); clear hx hy
      obtain ⟨xk, xh, xd⟩ := x
      obtain ⟨yk, yh, yd⟩ := y
      dsimp only at hc0 hc1 hc2 hd0 hd1 hd2
      by_cases hk : xk = yk
      rotate_left
      · have HE := Lib.hid hk; clear hk
        have hne := ne_bytes HE.out
        go_wp2
        refine Ph.region_at (by kernel_rfl) ?_
        refine Ph.at_quiet 11 (by kernel_rfl) ?_
        simp only [List.take_succ_cons, List.take_zero, List.drop_succ_cons, List.drop_zero]
        repeat ((first | (apply Ph.wpPh_g; (focus (intro wq hS0; have hbq := below_call (below_drew (Below.refl _ _)) hS0; have ha := cell_below hbq a12; have hb := cell_below hbq b12; have he0 := cell_below hbq hc0; have he1 := cell_below hbq hc1; have he2 := cell_below hbq hc2; have hf0 := cell_below hbq hd0; have hf1 := cell_below hbq hd1; have hf2 := cell_below hbq hd2; go_simp; first | exact rfl | exact ⟨rfl, Below.refl _ _⟩)))); simp only [Act.put, List.setIfInBounds_toArray, List.set_cons_zero, List.set_cons_succ])
        refine Ph.wpPh_nil ?_; intro w2 hSx
        have hb2 := below_call (below_drew (Below.refl _ _)) hSx
        clear hSx
        refine Ph.at_end (by simp) ?_
        go_wp2
        go_ret
        refine ⟨_, rfl, ?_, by rw [hb1]; exact HFIN.out _ (below_call HB.out hb2)⟩
        simp only [Bool.false_eq_true, false_iff]
        rintro ⟨e, -⟩
        have h1 := HX.out.1
        rw [e, HX.out.2] at h1
        have h2 := Option.some.inj h1
        injection h2 with e1 e2 e3
        exact HE.out e1.symm
      subst hk
      by_cases hd : xd = yd
      rotate_left
      · have HE := Lib.hid hd; clear hd
        have hne := ne_bytes HE.out
        go_wp2
        refine Ph.region_at (by kernel_rfl) ?_
        refine Ph.at_quiet 11 (by kernel_rfl) ?_
        simp only [List.take_succ_cons, List.take_zero, List.drop_succ_cons, List.drop_zero]
        repeat ((first | (apply Ph.wpPh_g; (focus (intro wq hS0; have hbq := below_call (below_drew (Below.refl _ _)) hS0; have ha := cell_below hbq a12; have hb := cell_below hbq b12; have he0 := cell_below hbq hc0; have he1 := cell_below hbq hc1; have he2 := cell_below hbq hc2; have hf0 := cell_below hbq hd0; have hf1 := cell_below hbq hd1; have hf2 := cell_below hbq hd2; go_simp; first | exact rfl | exact ⟨rfl, Below.refl _ _⟩)))); simp only [Act.put, List.setIfInBounds_toArray, List.set_cons_zero, List.set_cons_succ])
        refine Ph.wpPh_nil ?_; intro w2 hSx
        have hb2 := below_call (below_drew (Below.refl _ _)) hSx
        clear hSx
        refine Ph.at_end (by simp) ?_
        go_wp2
        go_ret
        refine ⟨_, rfl, ?_, by rw [hb1]; exact HFIN.out _ (below_call HB.out hb2)⟩
        simp only [Bool.false_eq_true, false_iff]
        rintro ⟨e, -⟩
        have h1 := HX.out.1
        rw [e, HX.out.2] at h1
        have h2 := Option.some.inj h1
        injection h2 with e1 e2 e3
        exact HE.out e3.symm
      subst hd
      cases xh <;> cases yh
      · go_wp2
        refine Ph.region_at (by kernel_rfl) ?_
        refine Ph.at_quiet 11 (by kernel_rfl) ?_
        simp only [List.take_succ_cons, List.take_zero, List.drop_succ_cons, List.drop_zero]
        repeat ((first | (apply Ph.wpPh_g; (focus (intro wq hS0; have hbq := below_call (below_drew (Below.refl _ _)) hS0; have ha := cell_below hbq a12; have hb := cell_below hbq b12; have he0 := cell_below hbq hc0; have he1 := cell_below hbq hc1; have he2 := cell_below hbq hc2; have hf0 := cell_below hbq hd0; have hf1 := cell_below hbq hd1; have hf2 := cell_below hbq hd2; go_simp; first | exact rfl | exact ⟨rfl, Below.refl _ _⟩)))); simp only [Act.put, List.setIfInBounds_toArray, List.set_cons_zero, List.set_cons_succ])
        refine Ph.wpPh_nil ?_; intro w2 hSx
        have hb2 := below_call (below_drew (Below.refl _ _)) hSx
        clear hSx
        refine Ph.at_end (by simp) ?_
        go_wp2
        go_roundw
        case rel =>
          refine ⟨j+1, ?_, by rw [← HN.out.1.1]; omega, ?_, below_call HB.out hb2⟩
          · go_num
          · rw [List.take_add_one, List.take_add_one, HG.out, HX.out.1, HX.out.2]
        case measure => simp [intOf]; omega
      · have HE : Hid (¬ false = true) := Lib.hid (by simp)
        go_wp2
        refine Ph.region_at (by kernel_rfl) ?_
        refine Ph.at_quiet 11 (by kernel_rfl) ?_
        simp only [List.take_succ_cons, List.take_zero, List.drop_succ_cons, List.drop_zero]
        repeat ((first | (apply Ph.wpPh_g; (focus (intro wq hS0; have hbq := below_call (below_drew (Below.refl _ _)) hS0; have ha := cell_below hbq a12; have hb := cell_below hbq b12; have he0 := cell_below hbq hc0; have he1 := cell_below hbq hc1; have he2 := cell_below hbq hc2; have hf0 := cell_below hbq hd0; have hf1 := cell_below hbq hd1; have hf2 := cell_below hbq hd2; go_simp; first | exact rfl | exact ⟨rfl, Below.refl _ _⟩)))); simp only [Act.put, List.setIfInBounds_toArray, List.set_cons_zero, List.set_cons_succ])
        refine Ph.wpPh_nil ?_; intro w2 hSx
        have hb2 := below_call (below_drew (Below.refl _ _)) hSx
        clear hSx
        refine Ph.at_end (by simp) ?_
        go_wp2
        go_ret
        refine ⟨_, rfl, ?_, by rw [hb1]; exact HFIN.out _ (below_call HB.out hb2)⟩
        simp only [Bool.false_eq_true, false_iff]
        rintro ⟨e, -⟩
        have h1 := HX.out.1
        rw [e, HX.out.2] at h1
        have h2 := Option.some.inj h1
        injection h2 with e1 e2 e3
        exact HE.out e2.symm
      · have HE : Hid (¬ true = false) := Lib.hid (by simp)
        go_wp2
        refine Ph.region_at (by kernel_rfl) ?_
        refine Ph.at_quiet 11 (by kernel_rfl) ?_
        simp only [List.take_succ_cons, List.take_zero, List.drop_succ_cons, List.drop_zero]
        repeat ((first | (apply Ph.wpPh_g; (focus (intro wq hS0; have hbq := below_call (below_drew (Below.refl _ _)) hS0; have ha := cell_below hbq a12; have hb := cell_below hbq b12; have he0 := cell_below hbq hc0; have he1 := cell_below hbq hc1; have he2 := cell_below hbq hc2; have hf0 := cell_below hbq hd0; have hf1 := cell_below hbq hd1; have hf2 := cell_below hbq hd2; go_simp; first | exact rfl | exact ⟨rfl, Below.refl _ _⟩)))); simp only [Act.put, List.setIfInBounds_toArray, List.set_cons_zero, List.set_cons_succ])
        refine Ph.wpPh_nil ?_; intro w2 hSx
        have hb2 := below_call (below_drew (Below.refl _ _)) hSx
        clear hSx
        refine Ph.at_end (by simp) ?_
        go_wp2
        go_ret
        refine ⟨_, rfl, ?_, by rw [hb1]; exact HFIN.out _ (below_call HB.out hb2)⟩
        simp only [Bool.false_eq_true, false_iff]
        rintro ⟨e, -⟩
        have h1 := HX.out.1
        rw [e, HX.out.2] at h1
        have h2 := Option.some.inj h1
        injection h2 with e1 e2 e3
        exact HE.out e2.symm
      · go_wp2
        refine Ph.region_at (by kernel_rfl) ?_
        refine Ph.at_quiet 11 (by kernel_rfl) ?_
        simp only [List.take_succ_cons, List.take_zero, List.drop_succ_cons, List.drop_zero]
        repeat ((first | (apply Ph.wpPh_g; (focus (intro wq hS0; have hbq := below_call (below_drew (Below.refl _ _)) hS0; have ha := cell_below hbq a12; have hb := cell_below hbq b12; have he0 := cell_below hbq hc0; have he1 := cell_below hbq hc1; have he2 := cell_below hbq hc2; have hf0 := cell_below hbq hd0; have hf1 := cell_below hbq hd1; have hf2 := cell_below hbq hd2; go_simp; first | exact rfl | exact ⟨rfl, Below.refl _ _⟩)))); simp only [Act.put, List.setIfInBounds_toArray, List.set_cons_zero, List.set_cons_succ])
        refine Ph.wpPh_nil ?_; intro w2 hSx
        have hb2 := below_call (below_drew (Below.refl _ _)) hSx
        clear hSx
        refine Ph.at_end (by simp) ?_
        go_wp2
        go_roundw
        case rel =>
          refine ⟨j+1, ?_, by rw [← HN.out.1.1]; omega, ?_, below_call HB.out hb2⟩
          · go_num
          · rw [List.take_add_one, List.take_add_one, HG.out, HX.out.1, HX.out.2]
        case measure => simp [intOf]; omega
    · have a13 := cell_below HB.out HCC.out.2.2.1
      have b13 := cell_below HB.out HCC.out.2.2.2
      go_wp2_with fail
      refine (HC50.out wr (HKK.out.1.below HB.out) (HKK.out.2.below HB.out)).mono ?_; rintro e w2 ⟨b, rfl, hb, hb2⟩
      go_wp2
      go_ret
      refine ⟨b, rfl, ?_, by rw [hb1]; exact HFIN.out _ (below_call HB.out hb2)⟩
      rw [hb]
      have h1 := HG.out
      rw [List.take_of_length_le (by rw [← HN.out.1.1]; omega), List.take_of_length_le (by rw [← HN.out.2.1]; omega)] at h1
      exact ⟨fun h => ⟨h1, h⟩, fun h => h.2⟩

end Go.Proofs.Ytiklpifaaogcpaa

namespace Go.Proofs.Ytiklpifaaogcpaa
open Go.RowKit Go.Cl Go.Wr Go.Kc
set_option maxRecDepth 100000
set_option linter.unusedVariables false
set_option linter.unusedSimpArgs false


theorem retF {P : Prop} {w w' : World} {e : Ending} (h : ¬ P) (he : RetF w e w') : RetB P w e w' := ⟨false, he.1, ⟨fun x => by simp at x, fun x => absurd x h⟩, he.2⟩
theorem c_same (w : World) (a b : Mg) (wp kp wp' kp' : Option Addr) (xc yc xc' yc' : Nat) (hw : LsW w wp xc a.W) (hk : LsS w kp yc a.K) (hw' : LsW w wp' xc' b.W) (hk' : LsS w kp' yc' b.K) :
    Calls Try.prog 16 #[.agg (a.cs wp xc kp yc), .agg (b.cs wp' xc' kp' yc')] w (RetB (a = b) w) := by
  obtain ⟨kind, node, inc, ses, tx, seq, key, lo, hi, has, data, hit, err, n, W, K⟩ := a
  obtain ⟨kind', node', inc', ses', tx', seq', key', lo', hi', has', data', hit', err', n', W', K'⟩ := b
  dsimp only at hw hk hw' hk'
  dsimp only [Mg.cs]
  by_cases h0 : kind = kind'
  rotate_left
  · refine (c_same_0 w _ _ _ _ _ _ _ _ _ _ _ _ _ _ _ _ _ _ _ _ _ _ _ _ _ _ _ _ _ _ _ _ _ _ _ _ _ _ _ _ (by simpa using h0) (by simpa using h0)).mono fun e w' he => retF (fun hh => h0 (by injection hh)) he
  subst h0
  by_cases h1 : node = node'
  rotate_left
  · refine (c_same_1 w _ _ _ _ _ _ _ _ _ _ _ _ _ _ _ _ _ _ _ _ _ _ _ _ _ _ _ _ _ _ _ _ _ _ _ _ _ _ _ (by simpa using h1) (by simpa using h1)).mono fun e w' he => retF (fun hh => h1 (by injection hh)) he
  subst h1
  by_cases h2 : inc = inc'
  rotate_left
  · refine (c_same_2 w _ _ _ _ _ _ _ _ _ _ _ _ _ _ _ _ _ _ _ _ _ _ _ _ _ _ _ _ _ _ _ _ _ _ _ _ _ _ (by simpa using h2) (by simpa using h2)).mono fun e w' he => retF (fun hh => h2 (by injection hh)) he
  subst h2
  by_cases h3 : ses = ses'
  rotate_left
  · refine (c_same_3 w _ _ _ _ _ _ _ _ _ _ _ _ _ _ _ _ _ _ _ _ _ _ _ _ _ _ _ _ _ _ _ _ _ _ _ _ _ (by simpa using h3) (by simpa using h3)).mono fun e w' he => retF (fun hh => h3 (by injection hh)) he
  subst h3
  by_cases h4 : tx = tx'
  rotate_left
  · refine (c_same_4 w _ _ _ _ _ _ _ _ _ _ _ _ _ _ _ _ _ _ _ _ _ _ _ _ _ _ _ _ _ _ _ _ _ _ _ _ (by simpa using h4) (by simpa using h4)).mono fun e w' he => retF (fun hh => h4 (by injection hh)) he
  subst h4
  by_cases h5 : seq = seq'
  rotate_left
  · refine (c_same_5 w _ _ _ _ _ _ _ _ _ _ _ _ _ _ _ _ _ _ _ _ _ _ _ _ _ _ _ _ _ _ _ _ _ _ _ (by simpa using h5) (by simpa using h5)).mono fun e w' he => retF (fun hh => h5 (by injection hh)) he
  subst h5
  by_cases h6 : key = key'
  rotate_left
  · refine (c_same_6 w _ _ _ _ _ _ _ _ _ _ _ _ _ _ _ _ _ _ _ _ _ _ _ _ _ _ _ _ _ _ _ _ _ _ (ne_bytes h6)).mono fun e w' he => retF (fun hh => h6 (by injection hh)) he
  subst h6
  by_cases h7 : lo = lo'
  rotate_left
  · refine (c_same_7 w _ _ _ _ _ _ _ _ _ _ _ _ _ _ _ _ _ _ _ _ _ _ _ _ _ _ _ _ _ _ _ _ _ (by simpa using h7) (by simpa using h7)).mono fun e w' he => retF (fun hh => h7 (by injection hh)) he
  subst h7
  by_cases h8 : hi = hi'
  rotate_left
  · refine (c_same_8 w _ _ _ _ _ _ _ _ _ _ _ _ _ _ _ _ _ _ _ _ _ _ _ _ _ _ _ _ _ _ _ _ (by simpa using h8) (by simpa using h8)).mono fun e w' he => retF (fun hh => h8 (by injection hh)) he
  subst h8
  by_cases h9 : has = has'
  rotate_left
  · cases has <;> cases has'
    · exact absurd rfl h9
    · refine (c_same_9f w _ _ _ _ _ _ _ _ _ _ _ _ _ _ _ _ _ _ _ _ _ _ _ _ _ _ _ _ _).mono fun e w' he => retF (fun hh => h9 (by injection hh)) he
    · refine (c_same_9t w _ _ _ _ _ _ _ _ _ _ _ _ _ _ _ _ _ _ _ _ _ _ _ _ _ _ _ _ _).mono fun e w' he => retF (fun hh => h9 (by injection hh)) he
    · exact absurd rfl h9
  subst h9
  by_cases h10 : data = data'
  rotate_left
  · refine (c_same_10 w _ _ _ _ _ _ _ _ _ _ _ _ _ _ _ _ _ _ _ _ _ _ _ _ _ _ _ _ _ _ (ne_bytes h10)).mono fun e w' he => retF (fun hh => h10 (by injection hh)) he
  subst h10
  by_cases h11 : hit = hit'
  rotate_left
  · cases hit <;> cases hit'
    · exact absurd rfl h11
    · refine (c_same_11f w _ _ _ _ _ _ _ _ _ _ _ _ _ _ _ _ _ _ _ _ _ _ _ _ _ _ _).mono fun e w' he => retF (fun hh => h11 (by injection hh)) he
    · refine (c_same_11t w _ _ _ _ _ _ _ _ _ _ _ _ _ _ _ _ _ _ _ _ _ _ _ _ _ _ _).mono fun e w' he => retF (fun hh => h11 (by injection hh)) he
    · exact absurd rfl h11
  subst h11
  by_cases h12 : err = err'
  rotate_left
  · refine (c_same_12 w _ _ _ _ _ _ _ _ _ _ _ _ _ _ _ _ _ _ _ _ _ _ _ _ _ _ _ _ (by simpa using h12) (by simpa using h12)).mono fun e w' he => retF (fun hh => h12 (by injection hh)) he
  subst h12
  by_cases h13 : n = n'
  rotate_left
  · refine (c_same_13 w _ _ _ _ _ _ _ _ _ _ _ _ _ _ _ _ _ _ _ _ _ _ _ _ _ _ _ (by simpa using h13) (by simpa using h13)).mono fun e w' he => retF (fun hh => h13 (by injection hh)) he
  subst h13
  by_cases h14 : W.length = W'.length
  rotate_left
  · refine (c_same_14 w _ _ _ _ _ _ _ _ _ _ _ _ _ _ _ _ _ _ _ _ _ _ _ _ _ _ (by simp; omega)).mono fun e w' he => retF (fun hh => h14 (by injection hh; simp_all)) he
  rw [← h14]
  by_cases h15 : K.length = K'.length
  rotate_left
  · refine (c_same_15 w _ _ _ _ _ _ _ _ _ _ _ _ _ _ _ _ _ _ _ _ _ _ _ _ _ (by simp; omega)).mono fun e w' he => retF (fun hh => h15 (by injection hh; simp_all)) he
  rw [← h15]
  refine (c_same_eq w _ _ _ _ _ _ _ _ _ _ _ _ _ _ W W' K K' _ _ _ _ _ _ _ _ hw hk hw' hk' h14 h15).mono ?_
  rintro e w' ⟨b, rfl, hb, hb2⟩
  refine ⟨b, rfl, hb.trans ?_, hb2⟩
  exact ⟨fun h => by rw [h.1, h.2], fun h => by injection h; exact ⟨by assumption, by assumption⟩⟩

end Go.Proofs.Ytiklpifaaogcpaa
