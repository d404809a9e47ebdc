/- The hot ones are kept: DeleteFunc. -/
import Derived.Test.YtficncmomgddpaaPd
import Derived.WalkKit
import Derived.WalkLawsBesides
import Derived.WalkSpells
import Derived.Below
import Derived.Deep.RegionHeld3
import Derived.Deep.QuietTactic
import Derived.BigQuiet
import Derived.Deep.DeepCutAuto
import Derived.Deep.DeepMust
import Derived.KernelRfl
import Derived.Lib.Hide
import Derived.Outline
import Derived.RegionTactic
import Derived.StillTailTactics
namespace Go.Proofs.Ytficncmomgddpaa
open Go.RowKit Go.Cl
set_option maxRecDepth 100000
set_option linter.unusedVariables false
set_option linter.unusedSimpArgs false
open Go.Ps

theorem SS.set {W0 : World} {c0 : Nat → Nat} {g N : Nat} {D : Nat → Nat} {W : World} (h : SS W0 c0 g N D W) {i : Nat} (hi : i < N) (v : Nat) : SS W0 c0 g N (fun k => if k = i then v else D k) (W.setCell ⟨g, i, none⟩ (.int .i64 (v : Int))) := by
  obtain ⟨c, hm, ⟨cur, h1, h2⟩, hc⟩ := h
  have hC := (Ch.refl (col := c) (i := 1) (w := W)).setCell (p := ⟨g, i, none⟩) (paint_of hc) (.int .i64 (v : Int))
  refine ⟨_, hm.trans hC.mv, ⟨_, Cl.hp_set h1 _, fun k hk => ?_⟩, paint_of hc⟩
  have hil : i < cur.size := (Array.getElem?_eq_some_iff.1 (h2 i hi)).1
  rw [Array.getElem?_setIfInBounds]
  by_cases e : i = k
  · subst e; rw [if_pos rfl, if_pos hil, if_pos rfl]
  · rw [if_neg e, if_neg (fun x => e x.symm)]; exact h2 k hk
theorem SS.grown {W0 : World} {c0 : Nat → Nat} {g N : Nat} {D : Nat → Nat} {W W' : World} (h : SS W0 c0 g N D W) {i : Nat} (hi : i ≤ N) (hg : W.grownBy W' (some g)) {cur : Array Value} (h1 : hp W g = some (.cells cur 3 (0, 0))) {zs : List Value} (h2 : hp W' g = some (.cells (lay cur.toList i zs).toArray 3 (0, 0))) : SS W0 c0 g i D W' := by
  obtain ⟨c, hm, ⟨cur', k1, k2⟩, hc⟩ := h
  have hC := (Ch.refl (col := c) (i := 1) (w := W)).grown hg (fun k hk => by simp at hk; subst hk; exact paint_of hc)
  refine ⟨_, hm.trans hC.mv, ⟨_, h2, fun k hk => ?_⟩, paint_of hc⟩
  rw [h1] at k1
  simp only [Option.some.injEq, Obj.cells.injEq, and_true] at k1
  subst k1
  have hl : k < cur.toList.length := by have := (Array.getElem?_eq_some_iff.1 (k2 k (by omega))).1; simpa using this
  have hs : i ≤ cur.toList.length := by
    by_cases e : i = 0
    · omega
    · have := (Array.getElem?_eq_some_iff.1 (k2 (i - 1) (by omega))).1; simp; omega
  have := k2 k (by omega)
  rw [List.getElem?_toArray]
  unfold lay
  rw [List.append_assoc, List.getElem?_append_left (by rw [List.length_take]; omega), List.getElem?_take, if_pos hk, Array.getElem?_toList]
  exact this
theorem zero_len1 (m : Nat) : (Builtin.zeroCells (Value.int .i64 0).cells m).toList.length = m := by
  unfold Builtin.zeroCells; simp [Value.cells]
theorem zero_ones1 (m : Nat) : ∀ v ∈ (Builtin.zeroCells (Value.int .i64 0).cells m).toList, v.oneCell' = true := by
  exact zero_ones (by intro u hu; simp [Value.cells] at hu; subst hu; rfl) m
section
variable (W0 : World) (c0 : Nat → Nat) (g n cp : Nat) (vq : Value) (h : Nat → Bool) (hn : n ≤ 1000) (hcp : n ≤ cp)
include hn hcp
set_option maxHeartbeats 2000000 in
theorem c_delete (hP : PredOk W0 c0 n vq h) (w : World) (D : Nat → Nat) (hS : SS W0 c0 g n D w) (hD : ∀ k, k < n → D k < n) :
    Calls Try.prog 24 #[.slice (some ⟨g, 0, none⟩) n cp, .func (.func 25) #[] #[vq]] w fun e w' => ∃ k F, k ≤ n ∧ e = .returned (.slice (some ⟨g, 0, none⟩) k cp) ∧ SS W0 c0 g k F w' ∧ ls F k = (ls D n).filter h := by
  have HP := Lib.hid hP; have HS := Lib.hid hS; have HD := Lib.hid hD
  have HI := Lib.hid (c_index W0 c0 g n cp vq h hn hP w D hS hD)
  clear hP hS hD
  go_enter Try.func24, Try.ntmps24
  go_upto_region 2 with (go_at_call 31; (with_reducible refine HI.out.mono ?_); rintro e w1 ⟨rfl, k, hk, hall, hres⟩; have HA := Lib.hid hall; clear hall; rcases hres with ⟨hkn, rfl⟩ | ⟨hkn, hh, rfl⟩)
  · go_wp2
    refine bodyPost_ret (v := .slice (some ⟨g, 0, none⟩) n cp) (by simp [results, Try.results24, go_sem]; done) rfl ?_
    exact ⟨n, D, Nat.le_refl _, rfl, HS.out, (ls_all (fun j hj => HA.out j (by omega))).symm⟩
  · have b1 : ((k : Int) == -1) = false := by rw [beq_eq_false_iff_ne]; omega
    have w1 : IntKind.i64.wrap ((k : Int) + 1) = (k : Int) + 1 := IntWalk.i64_in _ (by omega)
    have HH := Lib.hid hh; clear hh
    go_wp2
    go_loopw [5, 6] (DelInv W0 c0 g n h D) (fun _ y _ => n - (intOf y).toNat)
    case atStart => exact ⟨k, k + 1, D, rfl, by go_num, by omega, hkn, HS.out, by rw [ls_succ, List.filter_append, ls_all HA.out, List.filter_cons, HH.out]; simp, fun _ _ _ => rfl⟩
    case round =>
      clear HS b1 w1
      obtain ⟨i, j, F, rfl, rfl, hij, hj, hS, hl, hs⟩ := hrel
      have HL := Lib.hid (And.intro hl hs); clear hl hs
      have HS := Lib.hid hS; clear hS
      by_cases hlt : j < n
      · have b1 : (j : Int) < (n : Int) := by omega
        have b2 : (i : Int) < (n : Int) := by omega
        have b3 : i < n := by omega
        have w1 : IntKind.i64.wrap ((j : Int) + 1) = (j : Int) + 1 := IntWalk.i64_in _ (by omega)
        have w2 : IntKind.i64.wrap ((i : Int) + 1) = (i : Int) + 1 := IntWalk.i64_in _ (by omega)
        have cx := HS.out.cell hlt
        have ci := HS.out.cell b3
        have fr := HS.out.free
        rw [HL.out.2 j (Nat.le_refl _) hlt] at cx
        have hcall := HP.out.at HS.out (D j) (HD.out j hlt)
        generalize hx : D j = x at *
        have HX := Lib.hid hx; clear hx
        cases hh : h x
        · rw [hh] at hcall
          have HC := Lib.hid hcall; have HH2 := Lib.hid hh; clear hcall hh
          go_wp2_with (go_at_call 25; (with_reducible refine HC.out.mono ?_); rintro e w1 ⟨rfl, rfl⟩)
          go_roundw
          case rel => exact ⟨i, j + 1, F, rfl, by go_num, by omega, hlt, HS.out, by rw [HL.out.1, ls_succ, List.filter_append, List.filter_cons, HX.out, HH2.out]; simp, fun q q1 q2 => HL.out.2 q (by omega) q2⟩
          case measure => simp [intOf]; omega
        · rw [hh] at hcall
          have HC := Lib.hid hcall; have HH2 := Lib.hid hh; clear hcall hh
          go_wp2_with (go_at_call 25; (with_reducible refine HC.out.mono ?_); rintro e w1 ⟨rfl, rfl⟩)
          go_roundw
          case rel => exact ⟨i + 1, j + 1, _, by go_num, by go_num, by omega, hlt, HS.out.set b3 x, by
            rw [ls_succ, ls_same (G := F) (fun q hq => by show (if q = i then x else F q) = F q; rw [if_neg (by omega)]), HL.out.1, ls_succ, List.filter_append, List.filter_cons, HX.out, HH2.out]; simp, fun q q1 q2 => by
            show (if q = i then x else F q) = D q; rw [if_neg (by omega)]; exact HL.out.2 q (by omega) q2⟩
          case measure => simp [intOf]; omega
      · have hjn : j = n := by omega
        have HJ := Lib.hid hjn; clear hjn
        have b1 : ¬ ((j : Int) < (n : Int)) := by omega
        have q1 : i ≤ n := by omega
        have q2 : i ≤ cp := by omega
        have q3 : (i : Int) ≤ (n : Int) := by omega
        have q4 : (i : Int) ≤ (cp : Int) := by omega
        have q5 : ¬ (cp = i) := by omega
        obtain ⟨cur, hg⟩ : ∃ cur, hp wr g = some (.cells cur 3 (0, 0)) ∧ n ≤ cur.size := by
          obtain ⟨c, hm, ⟨cur, h1, h2⟩, _⟩ := HS.out
          refine ⟨cur, h1, ?_⟩
          have := (Array.getElem?_eq_some_iff.1 (h2 (n - 1) (by omega))).1
          omega
        have HG := Lib.hid hg; clear hg
        obtain ⟨w5, hrun, h5, hg5⟩ := run_clear_col (P := Try.prog) wr 33 3 0 (.int .i64 0) Try.underlying33 Try.zeroValue3 _ (n - i) (cp - i) g i rfl (by omega) cur 3 HG.out.1 (by rw [zero_len1]; have := HG.out.2; omega) (zero_ones1 _)
        have hS5 := HS.out.grown q1 hg5 HG.out.1 h5
        have HS5 := Lib.hid hS5
        clear h5 hg5 hS5
        go_wp2
        refine bodyPost_ret (v := .slice (some ⟨g, 0, none⟩) i cp) (by simp [results, Try.results24, go_sem]; done) rfl ?_
        exact ⟨i, q1, rfl, F, HS5.out, by rw [HL.out.1, HJ.out]⟩
end
end Go.Proofs.Ytficncmomgddpaa
