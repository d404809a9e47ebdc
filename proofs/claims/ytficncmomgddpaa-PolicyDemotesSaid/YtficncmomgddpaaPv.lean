/- Victim. -/
import Derived.Test.YtficncmomgddpaaPk
import Derived.WalkKit
import Derived.WalkLawsBesides
import Derived.WalkSpells
import Derived.Below
import Derived.Deep.RegionHeld3
import Derived.Deep.QuietTactic
import Derived.BigQuiet
import Derived.Deep.DeepCutAuto
import Derived.Deep.DeepMust
import Derived.KernelRfl
import Derived.Lib.Hide
import Derived.Outline
import Derived.RegionTactic
import Derived.StillTailTactics
namespace Go.Proofs.Ytficncmomgddpaa
open Go.RowKit Go.Cl
set_option maxRecDepth 100000
set_option linter.unusedVariables false
set_option linter.unusedSimpArgs false

open Go.Ps
def vic (E : Nat → En) : Nat → Int
  | 0 => -1
  | k + 1 => if vic E k < 0 then (k : Int) else if (E k).cmp (E (vic E k).toNat) < 0 then (k : Int) else vic E k
theorem vic_in (E : Nat → En) : ∀ k, (k = 0 ∧ vic E k = -1) ∨ (0 ≤ vic E k ∧ vic E k < k) := by
  intro k
  induction k with
  | zero => exact .inl ⟨rfl, rfl⟩
  | succ k ih =>
    right
    unfold vic
    split
    · omega
    · split <;> omega
theorem Ents.at {w : World} {p : Option Addr} {n cp : Nat} {E : Nat → En} (h : Ents w (.slice p n cp) n E) {i : Nat} (hi : i < n) : ∃ b o, p = some ⟨b, o, none⟩ ∧ b < w.heap.size ∧ EnAt w b (o + i * 8) (E i) := by
  obtain ⟨p', cp', e, h⟩ := h
  simp only [Value.slice.injEq, true_and] at e
  obtain ⟨rfl, rfl⟩ := e
  exact h i hi
theorem Ents.below {w w' : World} {v : Value} {n : Nat} {E : Nat → En} (h : Ents w v n E) (hb : Below w.heap.size w w') : Ents w' v n E := by
  obtain ⟨p, cp, hv, h⟩ := h
  exact ⟨p, cp, hv, fun i hi => by obtain ⟨b, o, hp, hl, hc⟩ := h i hi; exact ⟨b, o, hp, Nat.lt_of_lt_of_le hl hb.size, hc.of (hb.block b hl)⟩⟩
set_option maxHeartbeats 2000000 in
theorem c_victim (w : World) (v : Value) (n : Nat) (E : Nat → En) (hE : Ents w v n E) (hn : n ≤ 1000) :
    Calls Try.prog 11 #[v] w fun e w' => e = .returned (.int .i64 (vic E n)) ∧ Below w.heap.size w w' := by
  have HEN := Lib.hid hE
  obtain ⟨p, cp, rfl, _⟩ := hE
  go_enter Try.func11, Try.ntmps11
  go_wp2
  go_loopw [3, 8] (fun y z wr => ∃ i : Nat, y = .int .i64 (vic E i) ∧ z = .int .i64 i ∧ i ≤ n ∧ Below w.heap.size w wr) (fun _ z _ => n - (intOf z).toNat)
  case atStart => exact ⟨0, rfl, rfl, by omega, Below.refl _ _⟩
  case round =>
    obtain ⟨i, rfl, rfl, hi, hB⟩ := hrel
    by_cases hlt : i < n
    · have b1 : (i : Int) < (n : Int) := by omega
      have b1' : i < n := hlt
      have w1 : IntKind.i64.wrap ((i : Int) + 1) = (i : Int) + 1 := IntWalk.i64_in _ (by omega)
      have hE2 := Ents.below HEN.out hB
      obtain ⟨b, o, rfl, hbs, hat⟩ := hE2.at hlt
      have HE2 := Lib.hid hE2; clear hE2
      have HB := Lib.hid hB; clear hB
      generalize hee : E i = e at hat
      have HEE := Lib.hid hee; clear hee
      obtain ⟨x0, x1, x2, x3, x4, x5, x6, x7⟩ := hat.cells
      clear hat
      generalize hvi : vic E i = vi
      have HV := Lib.hid hvi
      have hvn := vic_in E i
      rw [hvi] at hvn
      clear hvi
      have HBS := Lib.hid hbs; clear hbs
      go_upto_region 5 with fail
      refine Ph.at_world ?_; intro W5 hW
      have k5 : hp W5 wr.heap.size = some (.cells #[.string e.k, .bool e.v0, .string e.v1, .int .i64 e.l, .int .i64 e.hi, .bool e.hot, .int .i64 e.st, .int .i64 e.ins] 28 (0, 0)) := by rw [hW]; simp [hpA, hpS, hpD, cset_cells]
      have hB5 : Below wr.heap.size wr W5 := by rw [hW]; exact by (repeat (first | (with_reducible assumption) | (with_reducible exact Below.refl _ _) | (with_reducible refine below_set ?_ (by first | assumption | (simp; done) | (simp; omega) | omega) _) | (with_reducible apply below_alloc) | (with_reducible apply below_drew) | (with_reducible apply below_drewN) | (with_reducible refine below_call ?_ (by assumption))))
      clear hW x0 x1 x2 x3 x4 x5 x6 x7
      have HB5 := Lib.hid hB5; clear hB5
      rcases hvn with ⟨rfl, rfl⟩ | ⟨hv0, hv1⟩
      · have hstep : vic E (0 + 1) = ((0 : Nat) : Int) := rfl
        have HST := Lib.hid hstep; clear hstep
        go_wp2
        refine Ph.region_at (by kernel_rfl) ?_
        refine Ph.at_quiet 10 (by kernel_rfl) ?_
        simp only [List.take_succ_cons, List.take_zero, List.drop_succ_cons, List.drop_zero]
        repeat ((first | (apply Ph.wpPh_g; (focus (intro w1 hS0; go_simp; first | exact rfl | exact ⟨rfl, Below.refl _ _⟩)))); simp only [Act.put, List.setIfInBounds_toArray, List.set_cons_zero, List.set_cons_succ])
        refine Ph.wpPh_nil ?_; intro w6 hS
        refine Ph.at_end (by simp) ?_
        go_wp2
        go_roundw
        case rel => exact ⟨0 + 1, by rw [HST.out], by go_num, by omega, below_call (below_call HB.out HB5.out) (below_call (below_drew (Below.refl _ _)) hS)⟩
        case measure => simp [intOf]; omega
      · obtain ⟨q, rfl⟩ : ∃ q : Nat, vi = (q : Int) := ⟨vi.toNat, by omega⟩
        have hq : q < i := by omega
        have b2 : ¬ ((q : Int) < 0) := by omega
        have b3 : (q : Int) < (n : Int) := by omega
        have b4 : q < n := by omega
        have hE5 := Ents.below HE2.out HB5.out
        obtain ⟨b', o', e2, hbs', hat'⟩ := hE5.at b4
        simp only [Option.some.injEq, Addr.mk.injEq, and_true] at e2
        obtain ⟨rfl, rfl⟩ := e2
        generalize hff : E q = f at hat'
        have HAT := Lib.hid hat'; have HBS2 := Lib.hid hbs'; clear hat' hE5 hbs'
        have hstep : vic E (i + 1) = if e.cmp f < 0 then (i : Int) else (q : Int) := by
          show (if vic E i < 0 then (i : Int) else if (E i).cmp (E (vic E i).toNat) < 0 then (i : Int) else vic E i) = _
          rw [HV.out, if_neg b2, HEE.out, Int.toNat_natCast, hff]
        have HST := Lib.hid hstep; clear hstep hff
        have hbf : ∀ w, Calls Try.prog 9 #[.agg #[.string e.k, .bool e.v0, .string e.v1, .int .i64 e.l, .int .i64 e.hi, .bool e.hot, .int .i64 e.st, .int .i64 e.ins], .agg #[.string f.k, .bool f.v0, .string f.v1, .int .i64 f.l, .int .i64 f.hi, .bool f.hot, .int .i64 f.st, .int .i64 f.ins]] w fun r w' => r = .returned (.bool (decide (e.cmp f < 0))) ∧ Below w.heap.size w w' := c_before e f
        have HBF := Lib.hid hbf; clear hbf
        by_cases hc : e.cmp f < 0
        · have d1 : decide (e.cmp f < 0) = true := by simpa using hc
          have HC := Lib.hid hc; clear hc hv0 hv1
          go_wp2
          refine Ph.region_at (by kernel_rfl) ?_
          refine Ph.at_quiet 10 (by kernel_rfl) ?_
          simp only [List.take_succ_cons, List.take_zero, List.drop_succ_cons, List.drop_zero]
          repeat ((first | (apply Ph.wpPh_g; (focus (intro w1 hS0; have k51 := hp_cell (hp_below hS0 (show hp W5.drew _ = _ from k5)); obtain ⟨y0, y1, y2, y3, y4, y5, y6, y7⟩ := (HAT.out.of (w' := w1) (hS0.block b HBS2.out)).cells; go_simp; first | exact rfl | exact ⟨rfl, Below.refl _ _⟩ | ((with_reducible refine (HBF.out _).mono ?_); rintro e w2 ⟨rfl, hb⟩; exact ⟨by rw [d1], hb⟩))))); simp only [Act.put, List.setIfInBounds_toArray, List.set_cons_zero, List.set_cons_succ])
          refine Ph.wpPh_nil ?_; intro w6 hS
          refine Ph.at_end (by simp) ?_
          go_wp2
          go_roundw
          case rel => exact ⟨i + 1, by rw [HST.out, if_pos HC.out], by go_num, by omega, below_call (below_call HB.out HB5.out) (below_call (below_drew (Below.refl _ _)) hS)⟩
          case measure => simp [intOf]; omega
        · have d1 : decide (e.cmp f < 0) = false := by simpa using hc
          have HC := Lib.hid hc; clear hc hv0 hv1
          go_wp2
          refine Ph.region_at (by kernel_rfl) ?_
          refine Ph.at_quiet 10 (by kernel_rfl) ?_
          simp only [List.take_succ_cons, List.take_zero, List.drop_succ_cons, List.drop_zero]
          repeat ((first | (apply Ph.wpPh_g; (focus (intro w1 hS0; have k51 := hp_cell (hp_below hS0 (show hp W5.drew _ = _ from k5)); obtain ⟨y0, y1, y2, y3, y4, y5, y6, y7⟩ := (HAT.out.of (w' := w1) (hS0.block b HBS2.out)).cells; go_simp; first | exact rfl | exact ⟨rfl, Below.refl _ _⟩ | ((with_reducible refine (HBF.out _).mono ?_); rintro e w2 ⟨rfl, hb⟩; exact ⟨by rw [d1], hb⟩))))); simp only [Act.put, List.setIfInBounds_toArray, List.set_cons_zero, List.set_cons_succ])
          refine Ph.wpPh_nil ?_; intro w6 hS
          refine Ph.at_end (by simp) ?_
          go_wp2
          go_roundw
          case rel => exact ⟨i + 1, by rw [HST.out, if_neg (by have := HC.out; omega)], by go_num, by omega, below_call (below_call HB.out HB5.out) (below_call (below_drew (Below.refl _ _)) hS)⟩
          case measure => simp [intOf]; omega
    · have hin : i = n := by omega
      have b1 : ¬ ((i : Int) < (n : Int)) := by omega
      have HB := Lib.hid hB; clear hB
      have HIN := Lib.hid hin; clear hin
      generalize hvi : vic E i = vi
      have HV := Lib.hid hvi; clear hvi
      go_wp2
      go_ret
      exact ⟨by rw [← HIN.out, HV.out]; rfl, HB.out⟩
end Go.Proofs.Ytficncmomgddpaa
