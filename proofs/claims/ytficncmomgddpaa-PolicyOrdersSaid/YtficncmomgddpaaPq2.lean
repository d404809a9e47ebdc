/- The reference's Order. -/
import Derived.Test.YtficncmomgddpaaPq
import Derived.Test.YtficncmomgddpaaPr3
import Derived.WalkKit
import Derived.WalkLawsBesides
import Derived.WalkSpells
import Derived.Below
import Derived.Deep.RegionHeld3
import Derived.Deep.QuietTactic
import Derived.BigQuiet
import Derived.Deep.DeepCutAuto
import Derived.Deep.DeepMust
import Derived.KernelRfl
import Derived.Lib.Hide
import Derived.Outline
import Derived.RegionTactic
import Derived.StillTailTactics
namespace Go.Proofs.Ytficncmomgddpaa
open Go.RowKit Go.Cl
set_option maxRecDepth 100000
set_option linter.unusedVariables false
set_option linter.unusedSimpArgs false

open Go.Ps
set_option maxHeartbeats 4000000 in
theorem c_rorder (w : World) (p : Option Addr) (n cp : Nat) (E : Nat → En) (hE : Ents w (.slice p n cp) n E) (hn : n ≤ 1000) (D : Nat → Nat) (hp : Pm 0 n (fun k => k) D) (hs : Sd (RR (fun x y => (E x).cmp (E y))) 0 n D) :
    Calls Try.prog 15 #[.slice p n cp] w fun e w' => Below w.heap.size w w' ∧ ∃ v', e = .returned v' ∧ RdI w' v' n D := by
  have HM := Lib.hid hn; have HE := Lib.hid hE
  have HD := Lib.hid (And.intro hp hs)
  clear hn hE hp hs
  have hmk := make_ints w n (by have := HM.out; omega)
  go_enter Try.func15, Try.ntmps15
  go_upto_region 2 with fail
  refine Ph.at_world ?_; intro W4 hW
  have hSS : SS W4 (fun k => if k = w.heap.size then 1 else 0) w.heap.size n (fun _ => 0) W4 := SS.new (by rw [hW]; exact hp_alloc_new _ _)
  have HB4 := Lib.hid (show Below w.heap.size w W4 by rw [hW]; exact below_alloc (Below.refl _ _) _)
  clear hW hmk
  obtain ⟨gt, hgt⟩ : ∃ gt, w.heap.size = gt := ⟨_, rfl⟩
  rw [hgt] at hSS ⊢
  have HGT := Lib.hid hgt; clear hgt
  go_wp2
  go_loopw [4] (fun t wr => ∃ (i : Nat) (O : Nat → Nat), t = .int .i64 i ∧ i ≤ n ∧ SS W4 (fun k => if k = gt then 1 else 0) gt n O wr ∧ ∀ k, k < n → D k < i → O k = D k) (fun t _ => n - (intOf t).toNat)
  case atStart => exact ⟨0, _, rfl, Nat.zero_le _, hSS, fun k _ h => by omega⟩
  case round =>
    clear hSS
    obtain ⟨i, O, rfl, hi, hS1, hO⟩ := hrel
    have HI := Lib.hid hi; clear hi
    have HO := Lib.hid hO; clear hO
    by_cases hlt : i < n
    · have b1 : (i : Int) < (n : Int) := by omega
      have w1 : IntKind.i64.wrap ((i : Int) + 1) = (i : Int) + 1 := IntWalk.i64_in _ (by have := HM.out; omega)
      go_wp2
      go_loopw [5, 6] (fun u t wr => ∃ k : Nat, u = .int .i64 (cnt (fun j => ahead (fun x y => (E x).cmp (E y)) j i) k : Int) ∧ t = .int .i64 k ∧ k ≤ n ∧ SS W4 (fun k => if k = gt then 1 else 0) gt n O wr) (fun _ t _ => n - (intOf t).toNat)
      case atStart => exact ⟨0, rfl, rfl, Nat.zero_le _, hS1⟩
      case round =>
        clear hS1
        obtain ⟨k, rfl, rfl, hk, hS1⟩ := hrel
        have HK := Lib.hid hk; clear hk
        have hcl := cnt_le (fun j => ahead (fun x y => (E x).cmp (E y)) j i) k
        by_cases hlt2 : k < n
        · have b2 : (k : Int) < (n : Int) := by omega
          have w2 : IntKind.i64.wrap ((k : Int) + 1) = (k : Int) + 1 := IntWalk.i64_in _ (by have := HM.out; omega)
          have w3 : IntKind.i64.wrap ((cnt (fun j => ahead (fun x y => (E x).cmp (E y)) j i) k : Int) + 1) = (cnt (fun j => ahead (fun x y => (E x).cmp (E y)) j i) k : Int) + 1 := IntWalk.i64_in _ (by have := HM.out; omega)
          have hstep : cnt (fun j => ahead (fun x y => (E x).cmp (E y)) j i) (k + 1) = cnt (fun j => ahead (fun x y => (E x).cmp (E y)) j i) k + if (decide ((E k).cmp (E i) < 0) || (decide (k < i) && !decide ((E i).cmp (E k) < 0))) = true then 1 else 0 := rfl
          have hE5 := HE.out.below (hS1.toBelow HB4.out (by rw [HGT.out]; exact Nat.le_refl _))
          obtain ⟨b, f, rfl, hb, hatk⟩ := hE5.at hlt2
          obtain ⟨b', f', e1, _, hati⟩ := hE5.at hlt
          simp only [Option.some.injEq, Addr.mk.injEq, and_true] at e1
          obtain ⟨rfl, rfl⟩ := e1
          generalize hcc : cnt (fun j => ahead (fun x y => (E x).cmp (E y)) j i) k = c0 at *
          generalize hcc1 : cnt (fun j => ahead (fun x y => (E x).cmp (E y)) j i) (k + 1) = c1 at *
          have HCC1 := Lib.hid hcc1
          clear hcc hcc1 hcl
          generalize E k = e at *
          generalize E i = g at *
          have HCX := Lib.hid (And.intro hatk (And.intro hati hb))
          have HSN := Lib.hid hS1
          clear hatk hati hb hS1 hE5
          generalize hd1 : decide (e.cmp g < 0) = d1 at *
          generalize hd2 : decide (g.cmp e < 0) = d2 at *
          have HC1 := Lib.hid (show ∀ w, Calls Try.prog 10 #[.agg #[.string e.k, .bool e.v0, .string e.v1, .int .i64 e.l, .int .i64 e.hi, .bool e.hot, .int .i64 e.st, .int .i64 e.ins], .agg #[.string g.k, .bool g.v0, .string g.v1, .int .i64 g.l, .int .i64 g.hi, .bool g.hot, .int .i64 g.st, .int .i64 g.ins]] w fun r w' => r = .returned (.bool d1) ∧ Below w.heap.size w w' from fun w => by
            have := c_ref e g w
            rw [hd1] at this; exact this)
          have HC2 := Lib.hid (show ∀ w, Calls Try.prog 10 #[.agg #[.string g.k, .bool g.v0, .string g.v1, .int .i64 g.l, .int .i64 g.hi, .bool g.hot, .int .i64 g.st, .int .i64 g.ins], .agg #[.string e.k, .bool e.v0, .string e.v1, .int .i64 e.l, .int .i64 e.hi, .bool e.hot, .int .i64 e.st, .int .i64 e.ins]] w fun r w' => r = .returned (.bool d2) ∧ Below w.heap.size w w' from fun w => by
            have := c_ref g e w
            rw [hd2] at this; exact this)
          clear hd1 hd2
          by_cases hki : k < i
          · have b3 : (k : Int) < (i : Int) := by omega
            rw [decide_eq_true hki] at hstep
            clear hki
            cases d1 <;> cases d2
            all_goals (simp only [Bool.false_or, Bool.true_or, Bool.true_and, Bool.false_and, Bool.not_true, Bool.not_false, if_true, Bool.false_eq_true, if_false, Nat.add_zero] at hstep; have HST := Lib.hid hstep; clear hstep)
            · go_wp2
              refine Ph.region_at (by kernel_rfl) ?_
              refine Ph.at_quiet 26 (by kernel_rfl) ?_
              simp only [List.take_succ_cons, List.take_zero, List.drop_succ_cons, List.drop_zero]
              repeat ((first | (apply Ph.wpPh_g; (focus (intro w1 hS0; have hz := below_call (below_drew (Below.refl wr.heap.size wr)) hS0; obtain ⟨x0, x1, x2, x3, x4, x5, x6, x7⟩ := (HCX.out.1.of (hz.block _ HCX.out.2.2)).cells; obtain ⟨y0, y1, y2, y3, y4, y5, y6, y7⟩ := (HCX.out.2.1.of (hz.block _ HCX.out.2.2)).cells; go_simp; first | exact rfl | exact ⟨rfl, Below.refl _ _⟩ | ((with_reducible refine (HC1.out _).mono ?_); rintro e w2 ⟨rfl, hb⟩; exact ⟨rfl, hb⟩) | ((with_reducible refine (HC2.out _).mono ?_); rintro e w2 ⟨rfl, hb⟩; exact ⟨rfl, hb⟩))))); simp only [Act.put, List.setIfInBounds_toArray, List.set_cons_zero, List.set_cons_succ])
              refine Ph.wpPh_nil ?_; intro w6 hS
              refine Ph.at_end (by simp) ?_
              go_wp2
              go_roundw
              case rel => exact ⟨k + 1, by first | (rw [HCC1.out, HST.out]; done) | (rw [HCC1.out, HST.out]; go_num), by go_num, by omega, HSN.out.below (below_call (below_drew (Below.refl _ _)) hS)⟩
              case measure => simp [intOf]; omega
            · go_wp2
              refine Ph.region_at (by kernel_rfl) ?_
              refine Ph.at_quiet 26 (by kernel_rfl) ?_
              simp only [List.take_succ_cons, List.take_zero, List.drop_succ_cons, List.drop_zero]
              repeat ((first | (apply Ph.wpPh_g; (focus (intro w1 hS0; have hz := below_call (below_drew (Below.refl wr.heap.size wr)) hS0; obtain ⟨x0, x1, x2, x3, x4, x5, x6, x7⟩ := (HCX.out.1.of (hz.block _ HCX.out.2.2)).cells; obtain ⟨y0, y1, y2, y3, y4, y5, y6, y7⟩ := (HCX.out.2.1.of (hz.block _ HCX.out.2.2)).cells; go_simp; first | exact rfl | exact ⟨rfl, Below.refl _ _⟩ | ((with_reducible refine (HC1.out _).mono ?_); rintro e w2 ⟨rfl, hb⟩; exact ⟨rfl, hb⟩) | ((with_reducible refine (HC2.out _).mono ?_); rintro e w2 ⟨rfl, hb⟩; exact ⟨rfl, hb⟩))))); simp only [Act.put, List.setIfInBounds_toArray, List.set_cons_zero, List.set_cons_succ])
              refine Ph.wpPh_nil ?_; intro w6 hS
              refine Ph.at_end (by simp) ?_
              go_wp2
              go_roundw
              case rel => exact ⟨k + 1, by first | (rw [HCC1.out, HST.out]; done) | (rw [HCC1.out, HST.out]; go_num), by go_num, by omega, HSN.out.below (below_call (below_drew (Below.refl _ _)) hS)⟩
              case measure => simp [intOf]; omega
            · go_wp2
              refine Ph.region_at (by kernel_rfl) ?_
              refine Ph.at_quiet 26 (by kernel_rfl) ?_
              simp only [List.take_succ_cons, List.take_zero, List.drop_succ_cons, List.drop_zero]
              repeat ((first | (apply Ph.wpPh_g; (focus (intro w1 hS0; have hz := below_call (below_drew (Below.refl wr.heap.size wr)) hS0; obtain ⟨x0, x1, x2, x3, x4, x5, x6, x7⟩ := (HCX.out.1.of (hz.block _ HCX.out.2.2)).cells; obtain ⟨y0, y1, y2, y3, y4, y5, y6, y7⟩ := (HCX.out.2.1.of (hz.block _ HCX.out.2.2)).cells; go_simp; first | exact rfl | exact ⟨rfl, Below.refl _ _⟩ | ((with_reducible refine (HC1.out _).mono ?_); rintro e w2 ⟨rfl, hb⟩; exact ⟨rfl, hb⟩) | ((with_reducible refine (HC2.out _).mono ?_); rintro e w2 ⟨rfl, hb⟩; exact ⟨rfl, hb⟩))))); simp only [Act.put, List.setIfInBounds_toArray, List.set_cons_zero, List.set_cons_succ])
              refine Ph.wpPh_nil ?_; intro w6 hS
              refine Ph.at_end (by simp) ?_
              go_wp2
              go_roundw
              case rel => exact ⟨k + 1, by first | (rw [HCC1.out, HST.out]; done) | (rw [HCC1.out, HST.out]; go_num), by go_num, by omega, HSN.out.below (below_call (below_drew (Below.refl _ _)) hS)⟩
              case measure => simp [intOf]; omega
            · go_wp2
              refine Ph.region_at (by kernel_rfl) ?_
              refine Ph.at_quiet 26 (by kernel_rfl) ?_
              simp only [List.take_succ_cons, List.take_zero, List.drop_succ_cons, List.drop_zero]
              repeat ((first | (apply Ph.wpPh_g; (focus (intro w1 hS0; have hz := below_call (below_drew (Below.refl wr.heap.size wr)) hS0; obtain ⟨x0, x1, x2, x3, x4, x5, x6, x7⟩ := (HCX.out.1.of (hz.block _ HCX.out.2.2)).cells; obtain ⟨y0, y1, y2, y3, y4, y5, y6, y7⟩ := (HCX.out.2.1.of (hz.block _ HCX.out.2.2)).cells; go_simp; first | exact rfl | exact ⟨rfl, Below.refl _ _⟩ | ((with_reducible refine (HC1.out _).mono ?_); rintro e w2 ⟨rfl, hb⟩; exact ⟨rfl, hb⟩) | ((with_reducible refine (HC2.out _).mono ?_); rintro e w2 ⟨rfl, hb⟩; exact ⟨rfl, hb⟩))))); simp only [Act.put, List.setIfInBounds_toArray, List.set_cons_zero, List.set_cons_succ])
              refine Ph.wpPh_nil ?_; intro w6 hS
              refine Ph.at_end (by simp) ?_
              go_wp2
              go_roundw
              case rel => exact ⟨k + 1, by first | (rw [HCC1.out, HST.out]; done) | (rw [HCC1.out, HST.out]; go_num), by go_num, by omega, HSN.out.below (below_call (below_drew (Below.refl _ _)) hS)⟩
              case measure => simp [intOf]; omega
          · have b3 : ¬ ((k : Int) < (i : Int)) := by omega
            have b3n : decide (k < i) = false := decide_eq_false hki
            rw [decide_eq_false hki] at hstep
            clear hki
            cases d1
            all_goals (simp only [Bool.false_or, Bool.true_or, Bool.true_and, Bool.false_and, Bool.not_true, Bool.not_false, if_true, Bool.false_eq_true, if_false, Nat.add_zero] at hstep; have HST := Lib.hid hstep; clear hstep)
            · go_wp2
              refine Ph.region_at (by kernel_rfl) ?_
              refine Ph.at_quiet 26 (by kernel_rfl) ?_
              simp only [List.take_succ_cons, List.take_zero, List.drop_succ_cons, List.drop_zero]
              repeat ((first | (apply Ph.wpPh_g; (focus (intro w1 hS0; have hz := below_call (below_drew (Below.refl wr.heap.size wr)) hS0; obtain ⟨x0, x1, x2, x3, x4, x5, x6, x7⟩ := (HCX.out.1.of (hz.block _ HCX.out.2.2)).cells; obtain ⟨y0, y1, y2, y3, y4, y5, y6, y7⟩ := (HCX.out.2.1.of (hz.block _ HCX.out.2.2)).cells; go_simp; first | exact rfl | exact ⟨rfl, Below.refl _ _⟩ | ((with_reducible refine (HC1.out _).mono ?_); rintro e w2 ⟨rfl, hb⟩; exact ⟨rfl, hb⟩) | ((with_reducible refine (HC2.out _).mono ?_); rintro e w2 ⟨rfl, hb⟩; exact ⟨rfl, hb⟩))))); simp only [Act.put, List.setIfInBounds_toArray, List.set_cons_zero, List.set_cons_succ])
              refine Ph.wpPh_nil ?_; intro w6 hS
              refine Ph.at_end (by simp) ?_
              go_wp2
              go_roundw
              case rel => exact ⟨k + 1, by first | (rw [HCC1.out, HST.out]; done) | (rw [HCC1.out, HST.out]; go_num), by go_num, by omega, HSN.out.below (below_call (below_drew (Below.refl _ _)) hS)⟩
              case measure => simp [intOf]; omega
            · go_wp2
              refine Ph.region_at (by kernel_rfl) ?_
              refine Ph.at_quiet 26 (by kernel_rfl) ?_
              simp only [List.take_succ_cons, List.take_zero, List.drop_succ_cons, List.drop_zero]
              repeat ((first | (apply Ph.wpPh_g; (focus (intro w1 hS0; have hz := below_call (below_drew (Below.refl wr.heap.size wr)) hS0; obtain ⟨x0, x1, x2, x3, x4, x5, x6, x7⟩ := (HCX.out.1.of (hz.block _ HCX.out.2.2)).cells; obtain ⟨y0, y1, y2, y3, y4, y5, y6, y7⟩ := (HCX.out.2.1.of (hz.block _ HCX.out.2.2)).cells; go_simp; first | exact rfl | exact ⟨rfl, Below.refl _ _⟩ | ((with_reducible refine (HC1.out _).mono ?_); rintro e w2 ⟨rfl, hb⟩; exact ⟨rfl, hb⟩) | ((with_reducible refine (HC2.out _).mono ?_); rintro e w2 ⟨rfl, hb⟩; exact ⟨rfl, hb⟩))))); simp only [Act.put, List.setIfInBounds_toArray, List.set_cons_zero, List.set_cons_succ])
              refine Ph.wpPh_nil ?_; intro w6 hS
              refine Ph.at_end (by simp) ?_
              go_wp2
              go_roundw
              case rel => exact ⟨k + 1, by first | (rw [HCC1.out, HST.out]; done) | (rw [HCC1.out, HST.out]; go_num), by go_num, by omega, HSN.out.below (below_call (below_drew (Below.refl _ _)) hS)⟩
              case measure => simp [intOf]; omega
        · obtain rfl : k = n := by have := HK.out; omega
          have b2 : ¬ ((k : Int) < (k : Int)) := by omega
          obtain ⟨k0, hk0, hdk⟩ := pm_onto HD.out.1 i hlt
          have hat := at_eq (anti_cmp E) HD.out.1 HD.out.2 hk0
          rw [hdk] at hat
          rw [hat]
          have b3 : (k0 : Int) < (k : Int) := by omega
          have cf := hS1.free k0
          have cc := hS1.cell hk0
          have HN := Lib.hid (hS1.set hk0 i)
          have HDK := Lib.hid hdk
          clear hS1 hdk hat hcl hlt2 HK
          go_wp2
          go_roundw
          case rel =>
            refine ⟨i + 1, _, by go_num, by omega, HN.out, fun j h1 h2 => ?_⟩
            by_cases c : j = k0
            · subst c; rw [if_pos rfl]; exact HDK.out.symm
            · rw [if_neg c]
              refine HO.out j h1 ?_
              have : D j ≠ i := fun e2 => c (pm_inj HD.out.1 _ _ (e2.trans HDK.out.symm))
              omega
          case measure => simp [intOf]; omega
    · have b1 : ¬ ((i : Int) < (n : Int)) := by omega
      have HSN := Lib.hid hS1; clear hS1
      go_wp2
      go_ret
      exact ⟨HSN.out.toBelow HB4.out (by rw [HGT.out]; exact Nat.le_refl _), _, rfl, (HSN.out.same fun j hj => HO.out j hj (by have := pm_mem HD.out.1 j hj; have := HI.out; omega)).rd⟩
end Go.Proofs.Ytficncmomgddpaa
