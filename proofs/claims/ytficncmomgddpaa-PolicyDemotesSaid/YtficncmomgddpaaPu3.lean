/- The reference's Demote, where less than none are to be kept. -/
import Derived.Test.YtficncmomgddpaaPu2
import Derived.WalkKit
import Derived.WalkLawsBesides
import Derived.WalkSpells
import Derived.Below
import Derived.Deep.RegionHeld3
import Derived.Deep.QuietTactic
import Derived.BigQuiet
import Derived.Deep.DeepCutAuto
import Derived.Deep.DeepMust
import Derived.KernelRfl
import Derived.Lib.Hide
import Derived.Outline
import Derived.RegionTactic
import Derived.StillTailTactics
namespace Go.Proofs.Ytficncmomgddpaa
open Go.RowKit Go.Cl
set_option maxRecDepth 100000
set_option linter.unusedVariables false
set_option linter.unusedSimpArgs false

open Go.Ps
set_option maxHeartbeats 8000000 in
theorem c_rdemote_neg (w : World) (p : Option Addr) (n cp : Nat) (E : Nat → En) (hE : Ents w (.slice p n cp) n E) (hn : n ≤ 1000) (keep : Int) (hk0 : -9223372036854775808 ≤ keep) (hk : keep ≤ 9223372036854775807) (hsg : keep < 0) (F : Nat → Nat) (c0 M : Nat) (hH : Hots E n F c0) (hM : (M : Int) = max ((c0 : Int) - max keep 0) 0) :
    Calls Try.prog 17 #[.slice p n cp, .int .i64 keep] w fun e w' => Below w.heap.size w w' ∧ ∃ v', e = .returned v' ∧ RdI w' v' M F := by
  obtain ⟨i0, hi, hz0, hz1, hz2⟩ := info_parts Try.info3
  have HZZ := Lib.hid (And.intro hi (And.intro hz0 (And.intro hz1 hz2)))
  clear hi hz0 hz1 hz2
  have HM := Lib.hid hn; have HE := Lib.hid hE
  have HH := Lib.hid hH
  have hc0n : c0 ≤ n := by rw [← hH.cnt]; exact cnt_le _ _
  have hcnt := hH.cnt
  obtain ⟨z, hz⟩ : ∃ z : Int, z = (c0 : Int) - 0 := ⟨_, rfl⟩
  have hMz : (M : Int) = max z 0 := by omega
  have w9 : IntKind.i64.wrap ((c0 : Int) - 0) = z := by rw [IntWalk.i64_in _ (by omega)]; omega
  have w9' : IntKind.i64.wrap (c0 : Int) = z := by rw [IntWalk.i64_in _ (by omega)]; omega
  have HMZ := Lib.hid (And.intro hMz (And.intro (show M ≤ c0 by omega) hc0n))
  have HW9 := Lib.hid (And.intro w9 w9')
  have HCNT := Lib.hid hcnt
  clear hn hE hH hM hk0 hk hz hMz w9 w9' hc0n hcnt
  go_enter Try.func17, Try.ntmps17
  go_wp2
  go_loopw [5, 6] (fun u t wr => ∃ i : Nat, u = .int .i64 (cnt (hots E) i : Int) ∧ t = .int .i64 i ∧ i ≤ n ∧ w = wr) (fun _ t _ => n - (intOf t).toNat)
  case atStart => exact ⟨0, rfl, rfl, Nat.zero_le _, rfl⟩
  case round =>
    obtain ⟨i, rfl, rfl, hi, rfl⟩ := hrel
    by_cases hlt : i < n
    · have b1 : (i : Int) < (n : Int) := by omega
      have w1 : IntKind.i64.wrap ((i : Int) + 1) = (i : Int) + 1 := IntWalk.i64_in _ (by have := HM.out; omega)
      have hstep : cnt (hots E) (i + 1) = cnt (hots E) i + if (E i).hot then 1 else 0 := rfl
      have hcl := cnt_le (hots E) i
      have w2 : IntKind.i64.wrap ((cnt (hots E) i : Int) + 1) = (cnt (hots E) i : Int) + 1 := IntWalk.i64_in _ (by have := HM.out; omega)
      obtain ⟨b, f, rfl, hb, hat⟩ := HE.out.at hlt
      generalize E i = e at *
      obtain ⟨x0, x1, x2, x3, x4, x5, x6, x7⟩ := hat.cells
      clear hat hb x0 x1 x2 x3 x4 x6 x7 hcl
      generalize hcc : cnt (hots E) i = c1 at *
      have HST := Lib.hid hstep; clear hstep hcc
      cases hh : e.hot with
      | true =>
        rw [hh] at x5
        have HHH := Lib.hid hh; clear hh
        go_wp2
        go_roundw
        case rel => exact ⟨i + 1, by rw [HST.out, HHH.out]; go_num, by go_num, by omega, by first | trivial | rfl⟩
        case measure => simp [intOf]; omega
      | false =>
        rw [hh] at x5
        have HHH := Lib.hid hh; clear hh
        go_wp2
        go_roundw
        case rel => exact ⟨i + 1, by rw [HST.out, HHH.out]; rfl, by go_num, by omega, by first | trivial | rfl⟩
        case measure => simp [intOf]; omega
    · obtain rfl : i = n := by omega
      have b1 : ¬ ((i : Int) < (i : Int)) := by omega
      clear hlt hi
      rw [HCNT.out]
      have hmk := fun W => make_bools W i (by have := HM.out; omega)
      go_upto_region 11 with fail
      clear b1 hmk
      obtain ⟨gt, hgt⟩ : ∃ gt, w.heap.size + 1 = gt := ⟨_, rfl⟩
      have hD0 := DemI.first w i F
      rw [hgt] at hD0 ⊢
      go_loopw [7] (fun x W => ∃ (t : Nat) (q : Option Addr) (cq : Nat) (o : List Bool), x = .slice q t cq ∧ t ≤ M ∧ DemI w gt F t x o W ∧ Gn o i F t) (fun x _ => M - slLen x)
      case atStart => exact ⟨0, _, _, _, rfl, Nat.zero_le _, hD0, Gn.zero _ _⟩
      case round =>
        clear hD0
        obtain ⟨t, q, cq, o, rfl, ht, hD, hG⟩ := hrel
        have HT := Lib.hid ht; clear ht
        by_cases htM : t < M
        · have hz1 : (t : Int) < z := by have := HMZ.out.1; omega
          have w9 := HW9.out.1
          have w9' := HW9.out.2
          have HTM := Lib.hid htM; clear htM
          obtain ⟨G, hGG⟩ : ∃ G : Nat → Bool, ∀ y, G y = decide (y ∈ ls F t) := ⟨_, fun _ => rfl⟩
          have HG := Lib.hid (And.intro hGG hG)
          clear hGG hG
          go_upto_region 13 with fail
          clear w9 w9' hz1
          go_wp2
          go_loopw [9, 10] (fun x y W => ∃ k : Nat, x = .int .i64 (bst E G k) ∧ y = .int .i64 k ∧ k ≤ i ∧ DemI w gt F t (.slice q t cq) o W) (fun _ y _ => i - (intOf y).toNat)
          case atStart => exact ⟨0, rfl, rfl, Nat.zero_le _, hD⟩
          case round =>
            clear hD
            obtain ⟨k, rfl, rfl, hk, hD⟩ := hrel
            have HK := Lib.hid hk; clear hk
            by_cases hlt : k < i
            · have b1 : (k : Int) < (i : Int) := by omega
              have w1 : IntKind.i64.wrap ((k : Int) + 1) = (k : Int) + 1 := IntWalk.i64_in _ (by have := HM.out; omega)
              have hbw := hD.toBelow
              obtain ⟨b, f, rfl, hb, hat⟩ := (HE.out.below hbw).at hlt
              have ct := hD.get (HG.out.2 k hlt)
              rw [← HG.out.1 k] at ct
              have HDD := Lib.hid hD; clear hD
              have hstep : bst E G (k + 1) = if (E k).hot = true ∧ G k = false ∧ (bst E G k < 0 ∨ (E k).dem (E (bst E G k).toNat) < 0) then (k : Int) else bst E G k := rfl
              have hbi := bst_in E G k
              generalize hbk1 : bst E G (k + 1) = bk1 at *
              generalize hbk : bst E G k = bk at *
              have HB1 := Lib.hid hbk1; clear hbk1 hbk
              generalize hee : E k = e at *
              clear hee
              obtain ⟨x0, x1, x2, x3, x4, x5, x6, x7⟩ := hat.cells
              clear hat
              have HBW := Lib.hid (And.intro hbw hb); clear hbw hb
              go_upto_region 17 with fail
              refine Ph.at_world ?_; intro W5 hW
              have k5 : hp W5 wr.heap.size = some (.cells #[.string e.k, .bool e.v0, .string e.v1, .int .i64 e.l, .int .i64 e.hi, .bool e.hot, .int .i64 e.st, .int .i64 e.ins] 28 (0, 0)) := by rw [hW]; simp [hpA, hpS, hpD, cset_cells]
              have hB5 : Below wr.heap.size wr W5 := by rw [hW]; exact by (repeat (first | (with_reducible assumption) | (with_reducible exact Below.refl _ _) | (with_reducible refine below_set ?_ (by first | assumption | (simp; done) | (simp; omega) | omega) _) | (with_reducible apply below_alloc) | (with_reducible apply below_drew) | (with_reducible apply below_drewN) | (with_reducible refine below_call ?_ (by assumption))))
              have HB5 := Lib.hid hB5
              have CT := Lib.hid (cell_below hB5 ct)
              have hE5 := HE.out.below (below_call HBW.out.1 hB5)
              clear hW ct x0 x1 x2 x3 x4 x5 x6 x7 hB5
              generalize hgk : G k = gk at *
              clear hgk
              cases hh : e.hot with
              | false =>
                rw [hh] at k5
                have K5 := Lib.hid k5; clear k5
                have HST := Lib.hid (show bk1 = bk by rw [hstep, if_neg (by rintro ⟨h, _⟩; rw [hh] at h; cases h)])
                clear hstep hh hbi hE5
                go_wp2
                refine Ph.region_at (by kernel_rfl) ?_
                refine Ph.at_quiet 43 (by kernel_rfl) ?_
                simp only [List.take_succ_cons, List.take_zero, List.drop_succ_cons, List.drop_zero]
                repeat ((first | (apply Ph.wpPh_g; (focus (intro w1 hS0; have hz := below_call (below_drew (Below.refl W5.heap.size W5)) hS0; have c5 := hp_cell (hp_below hS0 (show hp W5.drew _ = _ from K5.out)); have ct := cell_below hz CT.out; go_simp; first | exact rfl | exact ⟨rfl, Below.refl _ _⟩)))); simp only [Act.put, List.setIfInBounds_toArray, List.set_cons_zero, List.set_cons_succ])
                refine Ph.wpPh_nil ?_; intro w6 hS
                refine Ph.at_end (by simp) ?_
                go_wp2
                go_roundw
                case rel => exact ⟨k + 1, by rw [HB1.out, HST.out], by go_num, by omega, (HDD.out.below HB5.out).below (below_call (below_drew (Below.refl _ _)) hS)⟩
                case measure => simp [intOf]; omega
              | true =>
                rw [hh] at k5
                have K5 := Lib.hid k5; clear k5
                cases gk with
                | true =>
                  have HST := Lib.hid (show bk1 = bk by rw [hstep, if_neg (by rintro ⟨_, h, _⟩; cases h)])
                  clear hstep hh hbi hE5
                  go_wp2
                  refine Ph.region_at (by kernel_rfl) ?_
                  refine Ph.at_quiet 43 (by kernel_rfl) ?_
                  simp only [List.take_succ_cons, List.take_zero, List.drop_succ_cons, List.drop_zero]
                  repeat ((first | (apply Ph.wpPh_g; (focus (intro w1 hS0; have hz := below_call (below_drew (Below.refl W5.heap.size W5)) hS0; have c5 := hp_cell (hp_below hS0 (show hp W5.drew _ = _ from K5.out)); have ct := cell_below hz CT.out; go_simp; first | exact rfl | exact ⟨rfl, Below.refl _ _⟩)))); simp only [Act.put, List.setIfInBounds_toArray, List.set_cons_zero, List.set_cons_succ])
                  refine Ph.wpPh_nil ?_; intro w6 hS
                  refine Ph.at_end (by simp) ?_
                  go_wp2
                  go_roundw
                  case rel => exact ⟨k + 1, by rw [HB1.out, HST.out], by go_num, by omega, (HDD.out.below HB5.out).below (below_call (below_drew (Below.refl _ _)) hS)⟩
                  case measure => simp [intOf]; omega
                | false =>
                  rcases hbi with rfl | ⟨hq0, hq1⟩
                  · have HST := Lib.hid (show bk1 = (k : Int) by rw [hstep, if_pos ⟨hh, rfl, .inl (by decide)⟩])
                    clear hstep hh hE5
                    go_wp2
                    refine Ph.region_at (by kernel_rfl) ?_
                    refine Ph.at_quiet 43 (by kernel_rfl) ?_
                    simp only [List.take_succ_cons, List.take_zero, List.drop_succ_cons, List.drop_zero]
                    repeat ((first | (apply Ph.wpPh_g; (focus (intro w1 hS0; have hz := below_call (below_drew (Below.refl W5.heap.size W5)) hS0; have c5 := hp_cell (hp_below hS0 (show hp W5.drew _ = _ from K5.out)); have ct := cell_below hz CT.out; go_simp; first | exact rfl | exact ⟨rfl, Below.refl _ _⟩)))); simp only [Act.put, List.setIfInBounds_toArray, List.set_cons_zero, List.set_cons_succ])
                    refine Ph.wpPh_nil ?_; intro w6 hS
                    refine Ph.at_end (by simp) ?_
                    go_wp2
                    go_roundw
                    case rel => exact ⟨k + 1, by rw [HB1.out, HST.out], by go_num, by omega, (HDD.out.below HB5.out).below (below_call (below_drew (Below.refl _ _)) hS)⟩
                    case measure => simp [intOf]; omega
                  · obtain ⟨qq, rfl⟩ : ∃ qq : Nat, bk = (qq : Int) := ⟨bk.toNat, by omega⟩
                    have hqi : qq < i := by omega
                    obtain ⟨b', f', e1, hbs, hatq⟩ := hE5.at hqi
                    simp only [Option.some.injEq, Addr.mk.injEq, and_true] at e1
                    obtain ⟨rfl, rfl⟩ := e1
                    have HY := Lib.hid (And.intro hatq hbs)
                    rw [Int.toNat_natCast] at hstep
                    have hstep2 : bk1 = if (E qq).st > e.st ∨ (e.st = (E qq).st ∧ e.ins < (E qq).ins) then (k : Int) else (qq : Int) := by
                      rw [hstep]
                      by_cases c : e.dem (E qq) < 0
                      · rw [if_pos ⟨hh, rfl, .inr c⟩, if_pos ((dem_lt _ _).1 c)]
                      · rw [if_neg (by rintro ⟨_, _, h | h⟩ <;> first | omega | exact c h), if_neg (fun h => c ((dem_lt _ _).2 h))]
                    generalize E qq = g at *
                    have b2 : ¬ ((qq : Int) < 0) := by omega
                    have b3 : (qq : Int) < (i : Int) := by omega
                    clear hatq hbs hE5 hstep hh hq0 hq1
                    by_cases c1 : e.st < g.st
                    · have HST := Lib.hid (show bk1 = (k : Int) by rw [hstep2, if_pos (.inl c1)])
                      have d1 : decide (e.st < g.st) = true := decide_eq_true c1
                      clear hstep2
                      go_wp2
                      refine Ph.region_at (by kernel_rfl) ?_
                      refine Ph.at_quiet 43 (by kernel_rfl) ?_
                      simp only [List.take_succ_cons, List.take_zero, List.drop_succ_cons, List.drop_zero]
                      repeat ((first | (apply Ph.wpPh_g; (focus (intro w1 hS0; have hz := below_call (below_drew (Below.refl W5.heap.size W5)) hS0; have c5 := hp_cell (hp_below hS0 (show hp W5.drew _ = _ from K5.out)); have ct := cell_below hz CT.out; obtain ⟨y0, y1, y2, y3, y4, y5, y6, y7⟩ := (HY.out.1.of (hz.block _ HY.out.2)).cells; clear y0 y1 y2 y3 y4 y5; go_simp; first | exact rfl | exact ⟨rfl, Below.refl _ _⟩)))); simp only [Act.put, List.setIfInBounds_toArray, List.set_cons_zero, List.set_cons_succ])
                      refine Ph.wpPh_nil ?_; intro w6 hS
                      refine Ph.at_end (by simp) ?_
                      go_wp2
                      go_roundw
                      case rel => exact ⟨k + 1, by rw [HB1.out, HST.out], by go_num, by omega, (HDD.out.below HB5.out).below (below_call (below_drew (Below.refl _ _)) hS)⟩
                      case measure => simp [intOf]; omega
                    · have d1 : decide (e.st < g.st) = false := decide_eq_false c1
                      by_cases c2 : e.st = g.st
                      · have d2 : decide (e.st = g.st) = true := decide_eq_true c2
                        have d2' : (e.st == g.st) = true := by simpa using c2
                        by_cases c3 : e.ins < g.ins
                        · have HST := Lib.hid (show bk1 = (k : Int) by rw [hstep2, if_pos (.inr ⟨c2, c3⟩)])
                          have d3 : decide (e.ins < g.ins) = true := decide_eq_true c3
                          clear hstep2 c2
                          go_wp2
                          refine Ph.region_at (by kernel_rfl) ?_
                          refine Ph.at_quiet 43 (by kernel_rfl) ?_
                          simp only [List.take_succ_cons, List.take_zero, List.drop_succ_cons, List.drop_zero]
                          repeat ((first | (apply Ph.wpPh_g; (focus (intro w1 hS0; have hz := below_call (below_drew (Below.refl W5.heap.size W5)) hS0; have c5 := hp_cell (hp_below hS0 (show hp W5.drew _ = _ from K5.out)); have ct := cell_below hz CT.out; obtain ⟨y0, y1, y2, y3, y4, y5, y6, y7⟩ := (HY.out.1.of (hz.block _ HY.out.2)).cells; clear y0 y1 y2 y3 y4 y5; go_simp; first | exact rfl | exact ⟨rfl, Below.refl _ _⟩)))); simp only [Act.put, List.setIfInBounds_toArray, List.set_cons_zero, List.set_cons_succ])
                          refine Ph.wpPh_nil ?_; intro w6 hS
                          refine Ph.at_end (by simp) ?_
                          go_wp2
                          go_roundw
                          case rel => exact ⟨k + 1, by rw [HB1.out, HST.out], by go_num, by omega, (HDD.out.below HB5.out).below (below_call (below_drew (Below.refl _ _)) hS)⟩
                          case measure => simp [intOf]; omega
                        · have HST := Lib.hid (show bk1 = (qq : Int) by rw [hstep2, if_neg (by rintro (h | ⟨_, h⟩) <;> first | exact c1 h | exact c3 h)])
                          have d3 : decide (e.ins < g.ins) = false := decide_eq_false c3
                          clear hstep2 c2
                          go_wp2
                          refine Ph.region_at (by kernel_rfl) ?_
                          refine Ph.at_quiet 43 (by kernel_rfl) ?_
                          simp only [List.take_succ_cons, List.take_zero, List.drop_succ_cons, List.drop_zero]
                          repeat ((first | (apply Ph.wpPh_g; (focus (intro w1 hS0; have hz := below_call (below_drew (Below.refl W5.heap.size W5)) hS0; have c5 := hp_cell (hp_below hS0 (show hp W5.drew _ = _ from K5.out)); have ct := cell_below hz CT.out; obtain ⟨y0, y1, y2, y3, y4, y5, y6, y7⟩ := (HY.out.1.of (hz.block _ HY.out.2)).cells; clear y0 y1 y2 y3 y4 y5; go_simp; first | exact rfl | exact ⟨rfl, Below.refl _ _⟩)))); simp only [Act.put, List.setIfInBounds_toArray, List.set_cons_zero, List.set_cons_succ])
                          refine Ph.wpPh_nil ?_; intro w6 hS
                          refine Ph.at_end (by simp) ?_
                          go_wp2
                          go_roundw
                          case rel => exact ⟨k + 1, by rw [HB1.out, HST.out], by go_num, by omega, (HDD.out.below HB5.out).below (below_call (below_drew (Below.refl _ _)) hS)⟩
                          case measure => simp [intOf]; omega
                      · have HST := Lib.hid (show bk1 = (qq : Int) by rw [hstep2, if_neg (by rintro (h | ⟨h, _⟩) <;> first | exact c1 h | exact c2 h)])
                        have d2 : decide (e.st = g.st) = false := decide_eq_false c2
                        have d2' : (e.st == g.st) = false := by simpa using c2
                        clear hstep2
                        go_wp2
                        refine Ph.region_at (by kernel_rfl) ?_
                        refine Ph.at_quiet 43 (by kernel_rfl) ?_
                        simp only [List.take_succ_cons, List.take_zero, List.drop_succ_cons, List.drop_zero]
                        repeat ((first | (apply Ph.wpPh_g; (focus (intro w1 hS0; have hz := below_call (below_drew (Below.refl W5.heap.size W5)) hS0; have c5 := hp_cell (hp_below hS0 (show hp W5.drew _ = _ from K5.out)); have ct := cell_below hz CT.out; obtain ⟨y0, y1, y2, y3, y4, y5, y6, y7⟩ := (HY.out.1.of (hz.block _ HY.out.2)).cells; clear y0 y1 y2 y3 y4 y5; go_simp; first | exact rfl | exact ⟨rfl, Below.refl _ _⟩)))); simp only [Act.put, List.setIfInBounds_toArray, List.set_cons_zero, List.set_cons_succ])
                        refine Ph.wpPh_nil ?_; intro w6 hS
                        refine Ph.at_end (by simp) ?_
                        go_wp2
                        go_roundw
                        case rel => exact ⟨k + 1, by rw [HB1.out, HST.out], by go_num, by omega, (HDD.out.below HB5.out).below (below_call (below_drew (Below.refl _ _)) hS)⟩
                        case measure => simp [intOf]; omega
            · obtain rfl : k = i := by have := HK.out; omega
              have b1 : ¬ ((k : Int) < (k : Int)) := by omega
              have htc : t < c0 := by have := HTM.out; have := HMZ.out.2.1; omega
              rw [bst_next HH.out htc (G := G) (fun x hx => by rw [HG.out.1 x, decide_eq_true_eq]; exact mem_ls)]
              have hxk := HH.out.lt t htc
              have hgx := HG.out.2 _ hxk
              have hGn := HG.out.2.step hxk
              have ct := hD.get hgx
              have cf := hD.free (F t)
              have hDs := hD.set (F t)
              obtain ⟨x, hx⟩ : ∃ x, F t = x := ⟨_, rfl⟩
              rw [hx] at hxk hDs ct cf hGn ⊢
              have HXX := Lib.hid hx
              have HGN := Lib.hid hGn
              have b2 : (x : Int) < (k : Int) := by omega
              clear hx hgx hlt hD hGn
              generalize decide (x ∈ ls F t) = gg at *
              go_upto_region 20 with fail
              refine Ph.at_world ?_; intro W6 hW
              rw [← hW] at hDs
              clear hW ct cf
              obtain ⟨c, hm, hr, hc, hg⟩ := hDs
              have hb7 := below_alloc (Below.refl W6.heap.size W6) (.cells #[.int .i64 (x : Int)] 3 (0, 0))
              have HR := Lib.hid (And.intro (hr.kept (Mv.of_below (S := []) hb7) (by simp)) (And.intro (hm.after_below hb7) (And.intro hc (hp_below hb7 hg))))
              clear hr hm hc hg hb7 b1 b2
              go_wp2_with (at_builtin; refine wpList_append_col rfl (.tmp 94) (.tmp 96) 33 rfl 3 i0 (.int .i64 0) 1 8 Try.underlying33 HZZ.out.1 HZZ.out.2.1 HZZ.out.2.2.1 HZZ.out.2.2.2 rfl (by decide) _ t (fints F t) rfl HR.out.1 ⟨W6.heap.size, 0, none⟩ 1 1 [.int .i64 (x : Int)] rfl rfl (one_cell W6 _ _) (by simp [Value.oneCell']) ?c3 ?c4 ?k)
              case c3 => have := HT.out; have := HMZ.out; have := HM.out; unfold maxLen; omega
              case c4 => have := HT.out; have := HMZ.out; have := HM.out; omega
              case k =>
                intro p' c' w1 hr1 hC hgb
                go_wp2
                go_roundw
                case rel => exact ⟨t + 1, p', c', _, rfl, by have := HTM.out; omega, ⟨_, HR.out.2.1.trans (hC.mv' (by simp)), by rw [fints_succ, HXX.out]; exact hr1, (paint_old (hp_lt HR.out.2.2.2)).trans HR.out.2.2.1, hp_ch HR.out.2.2.2 hC (by rw [HR.out.2.2.1]; decide)⟩, HGN.out⟩
                case measure => simp [slLen]; have := HTM.out; omega
        · obtain rfl : t = M := by have := HT.out; omega
          have hz1 : ¬ ((t : Int) < z) := by have := HMZ.out.1; omega
          have w9 := HW9.out.1
          have w9' := HW9.out.2
          have HDD := Lib.hid hD; clear hD hG
          go_wp2
          go_ret
          exact ⟨HDD.out.toBelow, _, rfl, HDD.out.rd⟩

theorem c_rdemote (w : World) (p : Option Addr) (n cp : Nat) (E : Nat → En) (hE : Ents w (.slice p n cp) n E) (hn : n ≤ 1000) (keep : Int) (hk0 : -9223372036854775808 ≤ keep) (hk : keep ≤ 9223372036854775807) (F : Nat → Nat) (c0 M : Nat) (hH : Hots E n F c0) (hM : (M : Int) = max ((c0 : Int) - max keep 0) 0) :
    Calls Try.prog 17 #[.slice p n cp, .int .i64 keep] w fun e w' => Below w.heap.size w w' ∧ ∃ v', e = .returned v' ∧ RdI w' v' M F := by
  by_cases h : keep < 0
  · exact c_rdemote_neg w p n cp E hE hn keep hk0 hk h F c0 M hH hM
  · exact c_rdemote_pos w p n cp E hE hn keep hk0 hk h F c0 M hH hM
end Go.Proofs.Ytficncmomgddpaa
