/- PolicyHot: the walk. -/
import Derived.Test.YtficncmomgddpaaPb2
import Derived.Test.YtficncmomgddpaaPd0
import Derived.Test.YtficncmomgddpaaPx
import Derived.WalkKit
import Derived.WalkLawsBesides
import Derived.WalkSpells
import Derived.Below
import Derived.Deep.RegionHeld3
import Derived.Deep.QuietTactic
import Derived.BigQuiet
import Derived.Deep.DeepCutAuto
import Derived.Deep.DeepMust
import Derived.KernelRfl
import Derived.Lib.Hide
import Derived.Outline
import Derived.RegionTactic
import Derived.StillTailTactics
namespace Go.Proofs.Ytficncmomgddpaa
open Go.RowKit Go.Cl
set_option maxRecDepth 100000
set_option linter.unusedVariables false
set_option linter.unusedSimpArgs false

open Go.Ps
attribute [local go_sem] max2_int min2_int max_two min_two
set_option maxHeartbeats 4000000 in
theorem c_hot (w : World) (p : Option Addr) (n cp : Nat) (E : Nat → En) (hE : Ents w (.slice p n cp) n E) (hcp : n ≤ cp) (keep : Int) (hk0 : -9223372036854775808 ≤ keep) (hk : keep ≤ 9223372036854775807) :
    Calls Try.prog 7 #[.slice p n cp, .int .i64 keep] w fun e w' => e = .returned (.bool true) ∧ Below w.heap.size w w' := by
  obtain ⟨m, hm⟩ : ∃ m, min n 200 = m := ⟨_, rfl⟩
  have hmin : min (n : Int) 200 = (m : Int) := by omega
  have hm1 : m ≤ cp := by omega
  have hm2 : (m : Int) ≤ (cp : Int) := by omega
  have HM := Lib.hid (show m ≤ 200 by omega)
  have HE := Lib.hid (Ents.cut hE (show m ≤ n by omega))
  obtain ⟨K, hK⟩ : ∃ K, max keep 0 = K := ⟨_, rfl⟩
  have HKK := Lib.hid (And.intro hk0 (And.intro hk hK))
  clear hm hE hcp hk0 hk
  go_enter Try.func7, Try.ntmps7
  go_upto_region 4 with (go_at_call 8; (with_reducible refine (c_fixed _).mono ?_); rintro e w1 ⟨rfl, hb1⟩; have HB1 := Lib.hid hb1; clear hb1)
  clear hmin hm1 hm2
  have hmk := make_bools w1 m (by have := HM.out; omega)
  go_upto_region 5 with fail
  refine Ph.at_world ?_; intro W4 hW
  have h40 : hp W4 w1.heap.size = some (.cells (bools (List.replicate m false)) 4 (0, 0)) := by rw [hW]; exact hp_alloc_new _ _
  have hb4 : Below w1.heap.size w1 W4 := by rw [hW]; exact below_alloc (Below.refl _ _) _
  clear hW hmk
  obtain ⟨gt, hgt⟩ : ∃ gt, w1.heap.size = gt := ⟨_, rfl⟩
  rw [hgt] at h40 ⊢
  have HB4 := Lib.hid (And.intro (below_call HB1.out hb4) (And.intro (show w.heap.size ≤ gt by rw [← hgt]; exact HB1.out.size) h40))
  clear hgt hb4 h40
  have HE4 := Lib.hid (HE.out.below HB4.out.1)
  go_wp2
  go_loopw [6, 7] (fun u t wr => ∃ i : Nat, u = .int .i64 (cnt (hots E) i : Int) ∧ t = .int .i64 i ∧ i ≤ m ∧ wr = W4) (fun _ t _ => m - (intOf t).toNat)
  case atStart => exact ⟨0, rfl, rfl, Nat.zero_le _, rfl⟩
  case round =>
    obtain ⟨i, rfl, rfl, hi, rfl⟩ := hrel
    by_cases hlt : i < m
    · have b1 : (i : Int) < (m : Int) := by omega
      have w1 : IntKind.i64.wrap ((i : Int) + 1) = (i : Int) + 1 := IntWalk.i64_in _ (by have := HM.out; omega)
      have hstep : cnt (hots E) (i + 1) = cnt (hots E) i + if (E i).hot then 1 else 0 := rfl
      have hcl := cnt_le (hots E) i
      have w2 : IntKind.i64.wrap ((cnt (hots E) i : Int) + 1) = (cnt (hots E) i : Int) + 1 := IntWalk.i64_in _ (by have := HM.out; omega)
      obtain ⟨b, f, rfl, hb, hat⟩ := HE4.out.at hlt
      generalize E i = e at *
      obtain ⟨x0, x1, x2, x3, x4, x5, x6, x7⟩ := hat.cells
      clear hat hb x0 x1 x2 x3 x4 x6 x7 hcl
      generalize hcc : cnt (hots E) i = c0 at *
      have HST := Lib.hid hstep; clear hstep hcc
      cases hh : e.hot with
      | true =>
        rw [hh] at x5
        have HHH := Lib.hid hh; clear hh
        go_wp2
        go_roundw
        case rel => exact ⟨i + 1, by rw [HST.out, HHH.out]; go_num, by go_num, by omega, by first | trivial | rfl⟩
        case measure => simp [intOf]; omega
      | false =>
        rw [hh] at x5
        have HHH := Lib.hid hh; clear hh
        go_wp2
        go_roundw
        case rel => exact ⟨i + 1, by rw [HST.out, HHH.out]; rfl, by go_num, by omega, by first | trivial | rfl⟩
        case measure => simp [intOf]; omega
    · obtain rfl : i = m := by omega
      have b1 : ¬ ((i : Int) < (i : Int)) := by omega
      clear hlt hi
      generalize hcc : cnt (hots E) i = c0 at *
      have HCC := Lib.hid hcc; clear hcc
      go_upto_region 12 with (go_at_call 16; (with_reducible refine (c_demote_all _ _ _ _ _ HKK.out.1 HKK.out.2.1 E HE4.out (by have := HM.out; omega)).mono ?_); rintro e w5 ⟨hb, v', F, k, M, rfl, h1, h2, h3, h4⟩; have HX := Lib.hid (And.intro hb (And.intro h1 (And.intro h2 (And.intro h3 h4)))); clear hb h1 h2 h3 h4)
      obtain rfl : c0 = k := by rw [← HCC.out, HX.out.2.1.cnt]
      obtain ⟨q, cq, rfl, _⟩ := HX.out.2.2.2.2
      have hMi : M ≤ i := by have := HX.out.2.2.1; have := HX.out.2.2.2.1; rw [HKK.out.2.2] at this; have := HKK.out.2.2; omega
      have w2 : IntKind.i64.wrap ((c0 : Int) - K) = (c0 : Int) - K := IntWalk.i64_in _ (by have := HX.out.2.2.1; have := HM.out; have := HKK.out; omega)
      have w3 : max ((c0 : Int) - K) 0 = (M : Int) := by have := HX.out.2.2.2.1; rw [HKK.out.2.2] at this; exact this.symm
      have hMk : M ≤ c0 := by have := HX.out.2.2.2.1; rw [HKK.out.2.2] at this; have := HKK.out.2.2; omega
      have h5 := hp_below HX.out.1 HB4.out.2.2
      have hBB : BB w5 gt (List.replicate i false) w5 := BB.mk0 h5
      have HH5 := Lib.hid (And.intro (below_call HB4.out.1 HX.out.1) (And.intro h5 (And.intro hMi hMk)))
      clear h5 hMi hMk
      go_upto_region 14 with fail
      clear w2 w3 hK
      go_wp2
      go_loopw [9] (fun t wr => ∃ (j : Nat) (o : List Bool), t = .int .i64 j ∧ j ≤ M ∧ BB w5 gt o wr ∧ Gn o i F j) (fun t _ => M - (intOf t).toNat)
      case atStart => exact ⟨0, _, rfl, Nat.zero_le _, hBB, Gn.zero _ _⟩
      case round =>
        clear hBB
        obtain ⟨j, o, rfl, hj, hBo, hG⟩ := hrel
        have HJ := Lib.hid hj; clear hj
        have hR := HX.out.2.2.2.2.bb HH5.out.2.1 hBo
        have hE5 := HE.out.below (hBo.toBelow HH5.out.1 HB4.out.2.1)
        by_cases hlt : j < M
        · have b2 : (j : Int) < (M : Int) := by omega
          have w1 : IntKind.i64.wrap ((j : Int) + 1) = (j : Int) + 1 := IntWalk.i64_in _ (by have := HM.out; have := HH5.out.2.2.1; omega)
          obtain ⟨q', cq', e1, hx⟩ := hR
          simp only [Value.slice.injEq, true_and] at e1
          obtain ⟨rfl, rfl⟩ := e1
          obtain ⟨b, f, rfl, cx⟩ := hx j hlt
          clear hx
          have hjk : j < c0 := by have := HH5.out.2.2.2; omega
          have hxi : F j < i := HX.out.2.1.lt j hjk
          have hnot : decide (F j ∈ ls F j) = false := decide_eq_false fun h => by
            obtain ⟨j', h1, h2⟩ := mem_ls.1 h
            exact HX.out.2.1.inj j' j h1 hjk h2
          have hg0 := hG (F j) hxi
          rw [hnot] at hg0
          have ct := hBo.get hg0
          have cf := hBo.free (F j)
          obtain ⟨b0, f0, rfl, hb0, hat⟩ := hE5.at hxi
          have hho := HX.out.2.1.hot j hjk
          have HN := Lib.hid (And.intro (hBo.set (F j)) (hG.step hxi))
          clear hBo hG hnot hg0
          generalize F j = x at *
          generalize E x = e at *
          obtain ⟨x0, x1, x2, x3, x4, x5, x6, x7⟩ := hat.cells
          rw [hho] at x5
          clear hat hb0 x0 x1 x2 x3 x4 x6 x7 hho hE5
          have b3 : ¬ ((x : Int) < 0) := by omega
          have b4 : ¬ ((i : Int) ≤ (x : Int)) := by omega
          have b5 : (x : Int) < (i : Int) := by omega
          clear b1
          go_wp2
          go_roundw
          case rel => exact ⟨j + 1, _, by go_num, by omega, HN.out.1, HN.out.2⟩
          case measure => simp [intOf]; omega
        · obtain rfl : j = M := by have := HJ.out; omega
          have b2 : ¬ ((j : Int) < (j : Int)) := by omega
          have HBO := Lib.hid (And.intro hBo hG)
          clear hBo hG hlt hR hE5 b1
          go_wp2
          go_loopw [10] (fun t wr => ∃ s : Nat, t = .int .i64 s ∧ s ≤ i ∧ BB w5 gt o wr) (fun t _ => i - (intOf t).toNat)
          case atStart => exact ⟨0, rfl, Nat.zero_le _, HBO.out.1⟩
          case round =>
            obtain ⟨s, rfl, hs, hBo⟩ := hrel
            have HS := Lib.hid hs; clear hs
            by_cases hlt : s < i
            · have b1 : (s : Int) < (i : Int) := by omega
              have w1 : IntKind.i64.wrap ((s : Int) + 1) = (s : Int) + 1 := IntWalk.i64_in _ (by have := HM.out; omega)
              clear b2
              go_wp2
              go_loopw [11] (fun t wr => ∃ u : Nat, t = .int .i64 u ∧ u ≤ j ∧ BB w5 gt o wr) (fun t _ => j - (intOf t).toNat)
              case atStart => exact ⟨0, rfl, Nat.zero_le _, hBo⟩
              case round =>
                clear hBo
                obtain ⟨u, rfl, hu, hBo⟩ := hrel
                have HU := Lib.hid hu; clear hu
                by_cases hlt2 : u < j
                · have b2 : (u : Int) < (j : Int) := by omega
                  have w2 : IntKind.i64.wrap ((u : Int) + 1) = (u : Int) + 1 := IntWalk.i64_in _ (by have := HM.out; have := HH5.out.2.2.1; omega)
                  have hR := HX.out.2.2.2.2.bb HH5.out.2.1 hBo
                  have hE5 := HE.out.below (hBo.toBelow HH5.out.1 HB4.out.2.1)
                  obtain ⟨q', cq', e1, hx⟩ := hR
                  simp only [Value.slice.injEq, true_and] at e1
                  obtain ⟨rfl, rfl⟩ := e1
                  obtain ⟨b, f, rfl, cx⟩ := hx u hlt2
                  have huk : u < c0 := by have := HH5.out.2.2.2; omega
                  have hxi : F u < i := HX.out.2.1.lt u huk
                  have ct := hBo.get (HBO.out.2 s hlt)
                  obtain ⟨b0, f0, rfl, hb0, hat⟩ := hE5.at hlt
                  obtain ⟨b', f', e1, _, hatx⟩ := hE5.at hxi
                  simp only [Option.some.injEq, Addr.mk.injEq, and_true] at e1
                  obtain ⟨rfl, rfl⟩ := e1
                  have hkey : (E s).hot = true → decide (s ∈ ls F j) = false → ¬ (E s).st < (E (F u)).st := fun h1 h2 => by
                    obtain ⟨z, z1, z2⟩ := HX.out.2.1.all s hlt h1
                    have h2' := of_decide_eq_false h2
                    have hz : u < z := by
                      rcases Nat.lt_or_ge z j with c | c
                      · exact absurd (mem_ls.2 ⟨z, c, z2⟩) h2'
                      · omega
                    have := dem_st (HX.out.2.1.sd u z hz z1)
                    rw [z2] at this; exact this
                  have HBN := Lib.hid hBo
                  generalize F u = x at *
                  generalize E s = e at *
                  generalize E x = g at *
                  generalize decide (s ∈ ls F j) = gone at *
                  have b3 : (x : Int) < (i : Int) := by omega
                  have HCX := Lib.hid (And.intro cx (And.intro ct (And.intro hat (And.intro hatx hb0))))
                  have HKEY := Lib.hid hkey
                  clear hx cx ct hat hatx hb0 hkey hBo hE5 hlt hlt2
                  cases hh : e.hot with
                  | false =>
                    have HHH := Lib.hid hh; clear hh
                    go_wp2
                    refine Ph.region_at (by kernel_rfl) ?_
                    refine Ph.at_quiet 28 (by kernel_rfl) ?_
                    simp only [List.take_succ_cons, List.take_zero, List.drop_succ_cons, List.drop_zero]
                    repeat ((first | (apply Ph.wpPh_g; (focus (intro w1 hS0; have hz := below_call (below_drew (Below.refl wr.heap.size wr)) hS0; have cx := cell_below hz HCX.out.1; have ct := cell_below hz HCX.out.2.1; obtain ⟨x0, x1, x2, x3, x4, x5, x6, x7⟩ := (HCX.out.2.2.1.of (hz.block _ HCX.out.2.2.2.2)).cells; rw [HHH.out] at x5; obtain ⟨y0, y1, y2, y3, y4, y5, y6, y7⟩ := (HCX.out.2.2.2.1.of (hz.block _ HCX.out.2.2.2.2)).cells; clear x0 x1 x2 x3 x4 x7 y0 y1 y2 y3 y4 y5 y7; go_simp; first | exact rfl | exact ⟨rfl, Below.refl _ _⟩)))); simp only [Act.put, List.setIfInBounds_toArray, List.set_cons_zero, List.set_cons_succ])
                    refine Ph.wpPh_nil ?_; intro w6 hS
                    refine Ph.at_end (by simp) ?_
                    go_wp2
                    go_roundw
                    case rel => exact ⟨u + 1, by go_num, by omega, HBN.out.below (below_call (below_drew (Below.refl _ _)) hS)⟩
                    case measure => simp [intOf]; omega
                  | true =>
                    cases gone with
                    | true =>
                      have HHH := Lib.hid hh; clear hh
                      go_wp2
                      refine Ph.region_at (by kernel_rfl) ?_
                      refine Ph.at_quiet 28 (by kernel_rfl) ?_
                      simp only [List.take_succ_cons, List.take_zero, List.drop_succ_cons, List.drop_zero]
                      repeat ((first | (apply Ph.wpPh_g; (focus (intro w1 hS0; have hz := below_call (below_drew (Below.refl wr.heap.size wr)) hS0; have cx := cell_below hz HCX.out.1; have ct := cell_below hz HCX.out.2.1; obtain ⟨x0, x1, x2, x3, x4, x5, x6, x7⟩ := (HCX.out.2.2.1.of (hz.block _ HCX.out.2.2.2.2)).cells; rw [HHH.out] at x5; obtain ⟨y0, y1, y2, y3, y4, y5, y6, y7⟩ := (HCX.out.2.2.2.1.of (hz.block _ HCX.out.2.2.2.2)).cells; clear x0 x1 x2 x3 x4 x7 y0 y1 y2 y3 y4 y5 y7; go_simp; first | exact rfl | exact ⟨rfl, Below.refl _ _⟩)))); simp only [Act.put, List.setIfInBounds_toArray, List.set_cons_zero, List.set_cons_succ])
                      refine Ph.wpPh_nil ?_; intro w6 hS
                      refine Ph.at_end (by simp) ?_
                      go_wp2
                      go_roundw
                      case rel => exact ⟨u + 1, by go_num, by omega, HBN.out.below (below_call (below_drew (Below.refl _ _)) hS)⟩
                      case measure => simp [intOf]; omega
                    | false =>
                      have b4 := HKEY.out hh rfl
                      have HHH := Lib.hid hh; clear hh
                      go_wp2
                      refine Ph.region_at (by kernel_rfl) ?_
                      refine Ph.at_quiet 28 (by kernel_rfl) ?_
                      simp only [List.take_succ_cons, List.take_zero, List.drop_succ_cons, List.drop_zero]
                      repeat ((first | (apply Ph.wpPh_g; (focus (intro w1 hS0; have hz := below_call (below_drew (Below.refl wr.heap.size wr)) hS0; have cx := cell_below hz HCX.out.1; have ct := cell_below hz HCX.out.2.1; obtain ⟨x0, x1, x2, x3, x4, x5, x6, x7⟩ := (HCX.out.2.2.1.of (hz.block _ HCX.out.2.2.2.2)).cells; rw [HHH.out] at x5; obtain ⟨y0, y1, y2, y3, y4, y5, y6, y7⟩ := (HCX.out.2.2.2.1.of (hz.block _ HCX.out.2.2.2.2)).cells; clear x0 x1 x2 x3 x4 x7 y0 y1 y2 y3 y4 y5 y7; go_simp; first | exact rfl | exact ⟨rfl, Below.refl _ _⟩)))); simp only [Act.put, List.setIfInBounds_toArray, List.set_cons_zero, List.set_cons_succ])
                      refine Ph.wpPh_nil ?_; intro w6 hS
                      refine Ph.at_end (by simp) ?_
                      go_wp2
                      go_roundw
                      case rel => exact ⟨u + 1, by go_num, by omega, HBN.out.below (below_call (below_drew (Below.refl _ _)) hS)⟩
                      case measure => simp [intOf]; omega
                · have b2 : ¬ ((u : Int) < (j : Int)) := by omega
                  go_wp2
                  go_roundw
                  case rel => exact ⟨s + 1, by go_num, by omega, hBo⟩
                  case measure => simp [intOf]; omega
            · have b1 : ¬ ((s : Int) < (i : Int)) := by omega
              have HBN := Lib.hid (hBo.toBelow HH5.out.1 HB4.out.2.1)
              clear hBo
              go_wp2
              go_ret
              exact ⟨rfl, HBN.out⟩
end Go.Proofs.Ytficncmomgddpaa
