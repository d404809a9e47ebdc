/- PolicyAll: the walk. -/
import Derived.Test.YtficncmomgddpaaPb
import Derived.Test.YtficncmomgddpaaPx
import Derived.Test.YtficncmomgddpaaPv
import Derived.WalkKit
import Derived.WalkLawsBesides
import Derived.WalkSpells
import Derived.Below
import Derived.Deep.RegionHeld3
import Derived.Deep.QuietTactic
import Derived.BigQuiet
import Derived.Deep.DeepCutAuto
import Derived.Deep.DeepMust
import Derived.KernelRfl
import Derived.Lib.Hide
import Derived.Outline
import Derived.RegionTactic
import Derived.StillTailTactics
namespace Go.Proofs.Ytficncmomgddpaa
open Go.RowKit Go.Cl
set_option maxRecDepth 100000
set_option linter.unusedVariables false
set_option linter.unusedSimpArgs false

open Go.Ps
attribute [local go_sem] max2_int min2_int max_two min_two
theorem Ints.bb {w2 W4 W : World} {B gt n : Nat} {v : Value} {D : Nat → Nat} {o : List Bool} (h : Ints w2 B v n D) (hb : Below gt w2 W4) (hgt : w2.heap.size = gt) (hB : BB W4 gt o W) : RdI W v n D := by
  subst hgt
  obtain ⟨p, cp, hv, _, h⟩ := h
  refine ⟨p, cp, hv, fun i hi => ?_⟩
  obtain ⟨g, cur, hp0, _, hg, hc⟩ := h (by omega)
  have hl := hp_lt hg
  have hk : hp W g = some (.cells cur 3 (0, 0)) := by
    have e := hB.old (k := g) (by have := hb.size; omega) (by omega)
    unfold hp; rw [e]; exact hp_below hb hg
  exact ⟨g, 0, hp0, by rw [hp_cell hk, Nat.zero_add]; exact hc i hi⟩
set_option maxHeartbeats 4000000 in
theorem c_all (w : World) (p : Option Addr) (n cp : Nat) (E : Nat → En) (hE : Ents w (.slice p n cp) n E) (hcp : n ≤ cp) :
    Calls Try.prog 6 #[.slice p n cp] w fun e w' => e = .returned (.bool true) ∧ Below w.heap.size w w' := by
  obtain ⟨m, hm⟩ : ∃ m, min n 200 = m := ⟨_, rfl⟩
  have hmin : min (n : Int) 200 = (m : Int) := by omega
  have hm1 : m ≤ cp := by omega
  have hm2 : (m : Int) ≤ (cp : Int) := by omega
  have HM := Lib.hid (show m ≤ 200 by omega)
  have HE := Lib.hid (Ents.cut hE (show m ≤ n by omega))
  clear hm hE hcp
  go_enter Try.func6, Try.ntmps6
  go_upto_region 5 with (first | (go_at_call 8; (with_reducible refine (c_fixed _).mono ?_); rintro e w1 ⟨rfl, hb1⟩; have HB1 := Lib.hid hb1; clear hb1) | (go_at_call 14; (with_reducible refine (c_order _ _ _ _ (HE.out.below HB1.out) (by have := HM.out; omega) (tr_cmp E)).mono ?_); rintro e w2 ⟨hb, v', D, rfl, h1, h2, h3⟩; have HX := Lib.hid (And.intro (below_call HB1.out hb) (And.intro h1 (And.intro h2 h3))); clear hb h1 h2 h3))
  obtain ⟨q, cq, rfl, hcq, hg⟩ := HX.out.2.1
  clear hg hcq
  clear hmin hm1 hm2
  have hmk := make_bools w2 m (by have := HM.out; omega)
  go_upto_region 8 with fail
  refine Ph.at_world ?_; intro W4 hW
  have hBB : BB W4 w2.heap.size (List.replicate m false) W4 := BB.mk0 (by rw [hW]; exact hp_alloc_new _ _)
  have hb4 : Below w2.heap.size w2 W4 := by rw [hW]; exact below_alloc (Below.refl _ _) _
  clear hW hmk
  obtain ⟨gt, hgt⟩ : ∃ gt, w2.heap.size = gt := ⟨_, rfl⟩
  rw [hgt] at hBB hb4 ⊢
  have HB4 := Lib.hid (And.intro (below_call HX.out.1 (by rw [hgt]; exact hb4)) (And.intro (show w.heap.size ≤ gt by rw [← hgt]; exact HX.out.1.size) (And.intro hgt hb4)))
  clear hgt hb4
  go_wp2
  go_loopw [5] (fun t wr => ∃ (i : Nat) (o : List Bool), t = .int .i64 i ∧ i ≤ m ∧ BB W4 gt o wr ∧ ∀ j, i ≤ j → j < m → o[D j]? = some false) (fun t _ => m - (intOf t).toNat)
  case atStart => exact ⟨0, _, rfl, Nat.zero_le _, hBB, fun j _ hj => by rw [List.getElem?_replicate, if_pos (pm_mem HX.out.2.2.1 j hj)]⟩
  case round =>
    clear hBB
    obtain ⟨i, o, rfl, hi, hBo, hO⟩ := hrel
    have HI := Lib.hid hi; clear hi
    by_cases hlt : i < m
    · have b1 : (i : Int) < (m : Int) := by omega
      have w1 : IntKind.i64.wrap ((i : Int) + 1) = (i : Int) + 1 := IntWalk.i64_in _ (by have := HM.out; omega)
      have hR := Ints.bb HX.out.2.1 HB4.out.2.2.2 HB4.out.2.2.1 hBo
      obtain ⟨q', cq', e1, hx⟩ := hR
      simp only [Value.slice.injEq, true_and] at e1
      obtain ⟨rfl, rfl⟩ := e1
      obtain ⟨b, f, rfl, cx⟩ := hx i hlt
      have HXX := Lib.hid hx; clear hx
      have ct := hBo.get (hO i (Nat.le_refl _) hlt)
      have cf := hBo.free (D i)
      have hxm : D i < m := pm_mem HX.out.2.2.1 i hlt
      have HBO := Lib.hid hBo; clear hBo
      have HOO := Lib.hid hO; clear hO
      obtain ⟨x, hx⟩ : ∃ x, D i = x := ⟨_, rfl⟩
      rw [hx] at cx ct cf hxm
      have HDX := Lib.hid hx; clear hx
      have b2 : ¬ ((x : Int) < 0) := by omega
      have b3 : ¬ ((m : Int) ≤ (x : Int)) := by omega
      have b4 : (x : Int) < (m : Int) := by omega
      go_upto_region 14 with fail
      refine Ph.at_world ?_; intro W5 hW
      have hB5 : BB W4 gt (o.set x true) W5 := by rw [hW]; exact HBO.out.set x
      have hN5 : ∀ j, i + 1 ≤ j → j < m → (o.set x true)[D j]? = some false := fun j h1 h2 => by
        rw [List.getElem?_set_ne, HOO.out j (by omega) h2]
        intro e; rw [← HDX.out] at e
        have := pm_inj HX.out.2.2.1 _ _ e; omega
      clear hW ct cf
      have hbw : Below w.heap.size w W5 := hB5.toBelow HB4.out.1 HB4.out.2.1
      have hE5 := HE.out.below hbw
      have hR5 := Ints.bb HX.out.2.1 HB4.out.2.2.2 HB4.out.2.2.1 hB5
      have HB5 := Lib.hid (And.intro hB5 hN5); clear hB5 hN5
      by_cases h0 : i = 0
      · have b5 : ¬ (0 < (i : Int)) := by omega
        have b5n : ¬ (0 < i) := by omega
        have HI0 := Lib.hid h0; clear h0 hR5 hE5 hbw cx
        refine Ph.region_at (by kernel_rfl) ?_
        refine Ph.at_quiet 51 (by kernel_rfl) ?_
        simp only [List.take_succ_cons, List.take_zero, List.drop_succ_cons, List.drop_zero]
        repeat ((first | (apply Ph.wpPh_g; (focus (intro w1 hS0; go_simp; first | exact rfl | exact ⟨rfl, Below.refl _ _⟩)))); simp only [Act.put, List.setIfInBounds_toArray, List.set_cons_zero, List.set_cons_succ])
        refine Ph.wpPh_nil ?_; intro w6 hS
        refine Ph.at_end (by simp) ?_
        go_wp2
        go_roundw
        case rel => exact ⟨i + 1, _, by go_num, by omega, HB5.out.1.below (below_call (below_drew (Below.refl _ _)) hS), HB5.out.2⟩
        case measure => simp [intOf]; omega
      · have b5 : 0 < (i : Int) := by omega
        have b5n : 0 < i := by omega
        obtain ⟨k, hk⟩ : ∃ k, i = k + 1 := ⟨i - 1, by omega⟩
        have w2' : IntKind.i64.wrap ((i : Int) - 1) = (k : Int) := by rw [IntWalk.i64_in _ (by have := HM.out; omega)]; omega
        have hkm : k < m := by omega
        have b6 : (k : Int) < (m : Int) := by omega
        have hym : D k < m := pm_mem HX.out.2.2.1 k hkm
        have hrr : RR (fun x y => (E x).cmp (E y)) (D k) (D i) := HX.out.2.2.2 k i (Nat.zero_le _) (by omega) hlt
        obtain ⟨q', cq', e1, hx⟩ := hR5
        simp only [Value.slice.injEq, true_and] at e1
        obtain ⟨rfl, rfl⟩ := e1
        obtain ⟨b', f', e1, cx⟩ := hx i hlt
        simp only [Option.some.injEq, Addr.mk.injEq, and_true] at e1
        obtain ⟨rfl, rfl⟩ := e1
        obtain ⟨b', f', e1, cy⟩ := hx k hkm
        simp only [Option.some.injEq, Addr.mk.injEq, and_true] at e1
        obtain ⟨rfl, rfl⟩ := e1
        rw [HDX.out] at cx hrr
        obtain ⟨y, hy⟩ : ∃ y, D k = y := ⟨_, rfl⟩
        rw [hy] at cy hrr hym
        have b7 : (y : Int) < (m : Int) := by omega
        obtain ⟨b0, f0, rfl, hb0, hatx⟩ := hE5.at hxm
        obtain ⟨b', f', e1, _, haty⟩ := hE5.at hym
        simp only [Option.some.injEq, Addr.mk.injEq, and_true] at e1
        obtain ⟨rfl, rfl⟩ := e1
        generalize hee : E x = e at hatx
        generalize hff : E y = g at haty
        have hAsym : ¬ e.cmp g < 0 := by
          have := rr_asym (anti_cmp E) hrr
          rw [← hee, ← hff]; exact fun h => this (.inl h)
        have HC1 := Lib.hid (show ∀ w, Calls Try.prog 9 #[.agg #[.string e.k, .bool e.v0, .string e.v1, .int .i64 e.l, .int .i64 e.hi, .bool e.hot, .int .i64 e.st, .int .i64 e.ins], .agg #[.string g.k, .bool g.v0, .string g.v1, .int .i64 g.l, .int .i64 g.hi, .bool g.hot, .int .i64 g.st, .int .i64 g.ins]] w fun r w' => r = .returned (.bool false) ∧ Below w.heap.size w w' from fun w => by
          have := c_before e g w
          rw [decide_eq_false hAsym] at this; exact this)
        have HCX := Lib.hid (And.intro cx (And.intro cy (And.intro hatx (And.intro haty hb0))))
        clear hx cx cy hatx haty hb0 hAsym hk hE5 hbw hlt
        by_cases hc : g.cmp e < 0
        · have HC2 := Lib.hid (show ∀ w, Calls Try.prog 9 #[.agg #[.string g.k, .bool g.v0, .string g.v1, .int .i64 g.l, .int .i64 g.hi, .bool g.hot, .int .i64 g.st, .int .i64 g.ins], .agg #[.string e.k, .bool e.v0, .string e.v1, .int .i64 e.l, .int .i64 e.hi, .bool e.hot, .int .i64 e.st, .int .i64 e.ins]] w fun r w' => r = .returned (.bool true) ∧ Below w.heap.size w w' from fun w => by
            have := c_before g e w
            rw [decide_eq_true hc] at this; exact this)
          clear hc hrr hee hff hy
          go_wp2
          refine Ph.region_at (by kernel_rfl) ?_
          refine Ph.at_quiet 51 (by kernel_rfl) ?_
          simp only [List.take_succ_cons, List.take_zero, List.drop_succ_cons, List.drop_zero]
          repeat ((first | (apply Ph.wpPh_g; (focus (intro w1 hS0; have hz := below_call (below_drew (Below.refl W5.heap.size W5)) hS0; have cx := cell_below hz HCX.out.1; have cy := cell_below hz HCX.out.2.1; obtain ⟨x0, x1, x2, x3, x4, x5, x6, x7⟩ := (HCX.out.2.2.1.of (hz.block _ HCX.out.2.2.2.2)).cells; obtain ⟨y0, y1, y2, y3, y4, y5, y6, y7⟩ := (HCX.out.2.2.2.1.of (hz.block _ HCX.out.2.2.2.2)).cells; go_simp; first | exact rfl | exact ⟨rfl, Below.refl _ _⟩ | ((with_reducible refine (HC1.out _).mono ?_); rintro e w2 ⟨rfl, hb⟩; exact ⟨rfl, hb⟩) | ((with_reducible refine (HC2.out _).mono ?_); rintro e w2 ⟨rfl, hb⟩; exact ⟨rfl, hb⟩))))); simp only [Act.put, List.setIfInBounds_toArray, List.set_cons_zero, List.set_cons_succ])
          refine Ph.wpPh_nil ?_; intro w6 hS
          refine Ph.at_end (by simp) ?_
          go_wp2
          go_roundw
          case rel => exact ⟨i + 1, _, by go_num, by omega, HB5.out.1.below (below_call (below_drew (Below.refl _ _)) hS), HB5.out.2⟩
          case measure => simp [intOf]; omega
        · have HC2 := Lib.hid (show ∀ w, Calls Try.prog 9 #[.agg #[.string g.k, .bool g.v0, .string g.v1, .int .i64 g.l, .int .i64 g.hi, .bool g.hot, .int .i64 g.st, .int .i64 g.ins], .agg #[.string e.k, .bool e.v0, .string e.v1, .int .i64 e.l, .int .i64 e.hi, .bool e.hot, .int .i64 e.st, .int .i64 e.ins]] w fun r w' => r = .returned (.bool false) ∧ Below w.heap.size w w' from fun w => by
            have := c_before g e w
            rw [decide_eq_false hc] at this; exact this)
          have hlt2 : y < x := by
            rcases hrr with h | h
            · rw [← hee, ← hff] at hc; exact absurd h hc
            · exact h.2
          have b8 : ¬ ((x : Int) < (y : Int)) := by omega
          clear hc hrr hee hff hlt2 hy
          go_wp2
          refine Ph.region_at (by kernel_rfl) ?_
          refine Ph.at_quiet 51 (by kernel_rfl) ?_
          simp only [List.take_succ_cons, List.take_zero, List.drop_succ_cons, List.drop_zero]
          repeat ((first | (apply Ph.wpPh_g; (focus (intro w1 hS0; have hz := below_call (below_drew (Below.refl W5.heap.size W5)) hS0; have cx := cell_below hz HCX.out.1; have cy := cell_below hz HCX.out.2.1; obtain ⟨x0, x1, x2, x3, x4, x5, x6, x7⟩ := (HCX.out.2.2.1.of (hz.block _ HCX.out.2.2.2.2)).cells; obtain ⟨y0, y1, y2, y3, y4, y5, y6, y7⟩ := (HCX.out.2.2.2.1.of (hz.block _ HCX.out.2.2.2.2)).cells; go_simp; first | exact rfl | exact ⟨rfl, Below.refl _ _⟩ | ((with_reducible refine (HC1.out _).mono ?_); rintro e w2 ⟨rfl, hb⟩; exact ⟨rfl, hb⟩) | ((with_reducible refine (HC2.out _).mono ?_); rintro e w2 ⟨rfl, hb⟩; exact ⟨rfl, hb⟩))))); simp only [Act.put, List.setIfInBounds_toArray, List.set_cons_zero, List.set_cons_succ])
          refine Ph.wpPh_nil ?_; intro w6 hS
          refine Ph.at_end (by simp) ?_
          go_wp2
          go_roundw
          case rel => exact ⟨i + 1, _, by go_num, by omega, HB5.out.1.below (below_call (below_drew (Below.refl _ _)) hS), HB5.out.2⟩
          case measure => simp [intOf]; omega
    · have b1 : ¬ ((i : Int) < (m : Int)) := by omega
      have hbw : Below w.heap.size w wr := hBo.toBelow HB4.out.1 HB4.out.2.1
      have hR := Ints.bb HX.out.2.1 HB4.out.2.2.2 HB4.out.2.2.1 hBo
      have HE2 := Lib.hid (HE.out.below hbw)
      have HBW := Lib.hid hbw; clear hbw hO hBo
      by_cases h0 : m = 0
      · subst h0
        have hv : ∀ w, Ents w (.slice p 0 cp) 0 E → Calls Try.prog 11 #[.slice p 0 cp] w fun e w' => e = .returned (.int .i64 (-1)) ∧ Below w.heap.size w w' := fun w h => c_victim w _ 0 E h (by omega)
        have HV := Lib.hid hv; clear hv hR
        go_wp2_with (go_at_call 11; (with_reducible refine (HV.out _ HE2.out).mono ?_); rintro e w6 ⟨rfl, hb⟩; have HB6 := Lib.hid hb; clear hb)
        go_ret
        exact ⟨rfl, below_call HBW.out HB6.out⟩
      · have hpos : 0 < m := by omega
        have b2 : ¬ ((m : Int) = 0) := by omega
        have b3 : (0 : Int) < (m : Int) := by omega
        have hv : ∀ w, Ents w (.slice p m cp) m E → Calls Try.prog 11 #[.slice p m cp] w fun e w' => e = .returned (.int .i64 (D 0 : Int)) ∧ Below w.heap.size w w' := fun w h => by
          have := c_victim w _ m E h (by have := HM.out; omega)
          rw [vic_first HX.out.2.2.1 HX.out.2.2.2 hpos] at this; exact this
        have HV := Lib.hid hv; clear hv
        obtain ⟨q', cq', e1, hx⟩ := hR
        simp only [Value.slice.injEq, true_and] at e1
        obtain ⟨rfl, rfl⟩ := e1
        obtain ⟨b, f, rfl, cx⟩ := hx 0 hpos
        have HCX := Lib.hid (show wr.cell? ⟨b, f, none⟩ = _ from cx)
        clear hx cx
        generalize D 0 = y at *
        go_wp2
        refine Ph.region_at (by kernel_rfl) ?_
        refine Ph.at_quiet 7 (by kernel_rfl) ?_
        simp only [List.take_succ_cons, List.take_zero, List.drop_succ_cons, List.drop_zero]
        repeat ((first | (apply Ph.wpPh_g; (focus (intro w1 hS0; have hz := below_call (below_drew (Below.refl wr.heap.size wr)) hS0; have cx := cell_below hz HCX.out; go_simp; first | exact rfl | exact ⟨rfl, Below.refl _ _⟩ | ((with_reducible refine (HV.out _ (HE2.out.below hz)).mono ?_); rintro e w2 ⟨rfl, hb⟩; exact ⟨rfl, hb⟩))))); simp only [Act.put, List.setIfInBounds_toArray, List.set_cons_zero, List.set_cons_succ])
        refine Ph.wpPh_nil ?_; intro w6 hS
        refine Ph.at_end (by simp) ?_
        go_wp2
        go_ret
        exact ⟨rfl, below_call HBW.out (below_call (below_drew (Below.refl _ _)) hS)⟩
end Go.Proofs.Ytficncmomgddpaa
