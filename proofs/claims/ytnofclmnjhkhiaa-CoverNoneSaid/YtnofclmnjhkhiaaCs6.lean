/- Replace. -/
import Derived.Test.YtnofclmnjhkhiaaCs5
import Derived.Lib.AppendZeros
import Derived.WalkKit
import Derived.WalkLawsBesides
import Derived.WalkSpells
import Derived.Below
import Derived.Deep.RegionHeld3
import Derived.Deep.QuietTactic
import Derived.BigQuiet
import Derived.Deep.DeepCutAuto
import Derived.Deep.DeepMust
import Derived.KernelRfl
import Derived.Lib.Hide
import Derived.Outline
import Derived.RegionTactic
import Derived.StillTailTactics
namespace Go.Proofs.Ytnofclmnjhkhiaa
open Go.RowKit Go.Cl Go.Cv
set_option maxRecDepth 100000
set_option linter.unusedVariables false
set_option linter.unusedSimpArgs false

set_option maxHeartbeats 4000000 in
/-- Replace of what stands in the midst. -/
theorem rep_mid (col : Nat → Nat) (i : Nat) (w : World) (L : List Sp) (g c : Nat) (cur : Array Value) (hg : hp w g = some (.cells cur 30 (0, 0))) (hcm : c ≤ maxLen) (hcs : cur.size = c * 2) (htk : cur.toList.take (L.length * 2) = L.flatMap encS) (hcol : col g = i) (hn : L.length ≤ 8796093022206) (s : Sp) (vb vc : Nat) (hvb : hp w vb = some (.cells #[.int .i64 s.1, .int .i64 s.2] 30 (0, 0))) (hne : vb ≠ g) (k j : Nat) (hk : k < j) (hj : j < L.length) (hnc : L.length ≤ c) :
    Calls Try.prog 36 #[.slice (some ⟨g, 0, none⟩) L.length c, .int .i64 k, .int .i64 j, .slice (some ⟨vb, 0, none⟩) 1 vc] w fun e w' => ∃ v', e = .returned v' ∧ Row (paint col w i) i w' 30 2 v' (k + 1 + (L.length - j)) ((L.take k ++ s :: L.drop j).flatMap encS) ∧ Ch col i w w' := by
  obtain ⟨i0, hi0, hz0, hz1, hz2⟩ := info_parts Try.info30
  obtain ⟨n, hnn⟩ : ∃ n, L.length = n := ⟨_, rfl⟩
  have hR : cur.toList.take (k * 2) = (L.take k).flatMap encS := by
    rw [← encS_ok.take, ← htk, List.take_take, Nat.min_eq_left (by omega)]
  have htl : ((L.take k).flatMap encS).length = k * 2 := by rw [encS_ok.length, List.length_take]; omega
  have hdl : ((L.drop j).flatMap encS).length = (L.length - j) * 2 := by rw [encS_ok.length, List.length_drop]
  have hrt := rep_taken L s k j (by omega) cur.toList hR (by simp; omega)
  have hsrc0 := encS_ok.src L j hg htk
  rw [hnn] at hj hn hnc hdl hrt ⊢
  obtain ⟨D, hD⟩ : ∃ D, (L.drop j).flatMap encS = D := ⟨_, rfl⟩
  rw [hD] at hdl hrt hsrc0
  have hD1 : ∀ u ∈ D, u.oneCell' = true := by rw [← hD]; exact encS_ok.ones _
  obtain ⟨t, ht⟩ : ∃ t, k + 1 + (n - j) = t := ⟨_, rfl⟩
  rw [ht] at hrt ⊢
  have hl2 : (lay cur.toList (k * 2) (encS s)).length = c * 2 := by rw [length_lay]; simp; omega; show k * 2 + 2 ≤ _; simp; omega
  have hsrc : ∀ q u, D[q]? = some u → (lay cur.toList (k * 2) (encS s))[j * 2 + q]? = some u := fun q u hq => by
    have e := hsrc0 q u hq
    rw [Addr.add_lit] at e
    rw [hp_cell hg] at e
    have h1 : (cur.toList.take (k * 2) ++ encS s).length = k * 2 + 2 := by rw [List.length_append, hR, htl]; rfl
    rw [show lay cur.toList (k * 2) (encS s) = (cur.toList.take (k * 2) ++ encS s) ++ cur.toList.drop (k * 2 + 2) from rfl, List.getElem?_append_right (by omega), h1, List.getElem?_drop, show k * 2 + 2 + (j * 2 + q - (k * 2 + 2)) = j * 2 + q by omega]
    simpa using e
  have hl3 : (lay (lay cur.toList (k * 2) (encS s)) ((k + 1) * 2) D).length = c * 2 := by rw [length_lay]; exact hl2; rw [hl2, hdl]; omega
  have b1 : ¬ ((k : Int) = (j : Int)) := by omega
  have b2 : (k : Int) ≤ (j : Int) := by omega
  have b2n : k ≤ j := by omega
  have b3 : (j : Int) ≤ (c : Int) := by omega
  have b3n : j ≤ c := by omega
  have b3m : (j : Int) ≤ (n : Int) := by omega
  have b3k : j ≤ n := by omega
  have b4 : ¬ (c = k) := by omega
  have b4j : ¬ (c = j) := by omega
  have b4k : ¬ (c = k + 1) := by omega
  have b5 : k ≤ c := by omega
  have b5i : (k : Int) ≤ (c : Int) := by omega
  have b6 : ¬ ((j : Int) = (n : Int)) := by omega
  have b7 : ¬ ((c : Int) < (t : Int)) := by omega
  have b8 : (t : Int) ≤ (c : Int) := by omega
  have b8n : t ≤ c := by omega
  have b9 : (t : Int) ≤ (n : Int) := by omega
  have b9n : t ≤ n := by omega
  have b10 : (0 : Int) ≤ (k : Int) + 1 := by omega
  have b11 : (k : Int) + 1 ≤ (j : Int) := by omega
  have b11n : k + 1 ≤ j := by omega
  have b12 : (k : Int) ≤ (t : Int) := by omega
  have b12n : k ≤ t := by omega
  have b13 : (k : Int) + 1 ≤ (t : Int) := by omega
  have b13n : k + 1 ≤ t := by omega
  have w1 : IntKind.i64.wrap ((k : Int) + 1) = (k : Int) + 1 := IntWalk.i64_in _ (by omega)
  have w3 : IntKind.i64.wrap ((k : Int) + 1 + ((n - j : Nat) : Int)) = (t : Int) := by rw [IntWalk.i64_in _ (by omega)]; omega
  have w4 : IntKind.i64.wrap ((k : Int) + 1 + ((n : Int) - (j : Int))) = (t : Int) := by rw [IntWalk.i64_in _ (by omega)]; omega
  have t2 : ((k : Int) + 1).toNat = k + 1 := by omega
  have HL := Lib.hid (And.intro hcs (And.intro hl2 (And.intro hl3 (And.intro hcol (And.intro hcm (And.intro hdl (And.intro hrt (And.intro hD1 (And.intro hsrc (And.intro hD (And.intro htl (And.intro hnn ht))))))))))))
  have HG := Lib.hid (And.intro hg hvb)
  have HB := Lib.hid (And.intro hk (And.intro hj hnc))
  have HZ := Lib.hid (And.intro hi0 hz1)
  clear hg hcs htk hcol hn hvb hne hk hj hnn hR htl hl2 hcm hnc hl3 hsrc hsrc0 hdl hrt hD1 hD ht hi0 hz0 hz1 hz2
  go_enter Try.func36, Try.ntmps36
  go_upto_region 9 with fail
  refine Ph.region_at (by kernel_rfl) ?_
  refine Ph.at_quiet 13 (by kernel_rfl) ?_
  simp only [List.take_succ_cons, List.take_zero, List.drop_succ_cons, List.drop_zero]
  repeat ((first | (apply Ph.wpPh_g; (focus (intro w1 hS0; go_simp; first | exact rfl | exact ⟨rfl, Below.refl _ _⟩)))); simp only [Act.put, List.setIfInBounds_toArray, List.set_cons_zero, List.set_cons_succ])
  refine Ph.wpPh_nil ?_; intro w3 hS9
  refine Ph.at_end (by simp) ?_
  have hz9 := below_call (below_drew (Below.refl w.heap.size w)) hS9
  have hC9 : Ch col i w w3 := Ch.refl.below hz9
  have hg9 := hp_below hz9 HG.out.1
  obtain ⟨w2, hrun, hg2, hw2⟩ := run_copy_col (P := Try.prog) w3 58 58 3 30 i0 2 Try.underlying58 HZ.out.1 HZ.out.2 (some ⟨g, k * 2, none⟩) (some ⟨vb, 0, none⟩) (t - k) (c - k) 1 vc g (k * 2) cur 30 hg9 1 (by show _ = min _ _; omega) (encS s) rfl (fun _ => ⟨rfl, _, rfl, one_src (hp_below hz9 HG.out.2)⟩) (by have h1 := HL.out; have := HB.out; show k * 2 + 2 ≤ _; omega) (encS_ok.one s)
  have HC2 := Lib.hid (show Ch col i w w2 from hC9.grown hw2 (fun q hq => by simp at hq; subst hq; exact paint_of HL.out.2.2.2.1))
  have HG2 := Lib.hid hg2
  have HSR := Lib.hid (fun q u hq => by rw [Addr.add_lit, hp_cell hg2, List.getElem?_toArray]; exact HL.out.2.2.2.2.2.2.2.2.1 q u hq : ∀ q u, D[q]? = some u → w2.cell? ((⟨g, j * 2, none⟩ : Addr).add q) = some u)
  clear hz9 hC9 hg9 hg2 hw2
  go_upto_region 18 with fail
  clear hrun
  refine Ph.region_at (by kernel_rfl) ?_
  refine Ph.at_quiet 9 (by kernel_rfl) ?_
  simp only [List.take_succ_cons, List.take_zero, List.drop_succ_cons, List.drop_zero]
  repeat ((first | (apply Ph.wpPh_g; (focus (intro w1 hS0; go_simp; first | exact rfl | exact ⟨rfl, Below.refl _ _⟩)))); simp only [Act.put, List.setIfInBounds_toArray, List.set_cons_zero, List.set_cons_succ])
  refine Ph.wpPh_nil ?_; intro w5 hS
  refine Ph.at_op rfl (by kernel_rfl) ?_
  refine wpList_copy_col rfl (.tmp 103) (.tmp 106) 58 58 rfl 30 i0 2 Try.underlying58 HZ.out.1 HZ.out.2 _ _ _ _ _ _ rfl rfl g ((k + 1) * 2) _ 30 (hp_below (below_call (below_drew (Below.refl _ _)) hS) HG2.out) (n - j) (by show _ = min _ _; have := HB.out; have := HL.out.2.2.2.2.2.2.2.2.2.2.2.2; omega) D HL.out.2.2.2.2.2.1 ?hpos ?hfit HL.out.2.2.2.2.2.2.2.1 ?kk
  case hpos => exact fun h => ⟨rfl, ⟨g, j * 2, none⟩, rfl, fun q u hq => by have := HSR.out q u hq; rw [Addr.add_lit] at this ⊢; exact cell_below (below_call (below_drew (Below.refl _ _)) hS) this⟩
  case hfit => have h1 := HL.out; have := HB.out; rw [h1.2.2.2.2.2.1, List.size_toArray, h1.2.1]; omega
  case kk =>
    intro w6 hg6 hw6
    have hC6 : Ch col i w w6 := (HC2.out.below (below_call (below_drew (Below.refl _ _)) hS)).grown hw6 (fun q hq => by simp at hq; subst hq; exact paint_of HL.out.2.2.2.1)
    have H6 := Lib.hid (And.intro hg6 hC6)
    clear hg6 hw6 hC6
    refine Ph.at_end (by simp) ?_
    by_cases htn : t = n
    · subst htn
      have hclr := clear_none w6
      by_cases hct : c = t
      · subst hct
        go_wp2
        go_ret
        have hA := HL.out
        refine ⟨_, rfl, Row.mk' H6.out.1 (by omega) hA.2.2.2.2.1 ?_ ?_ ?_ (paint_of hA.2.2.2.1), H6.out.2⟩
        · rw [List.size_toArray]; exact hA.2.2.1
        · have e := hA.2.2.2.2.2.2.1
          show (lay (lay cur.toList (k * 2) (encS s)) ((k + 1) * 2) D).take _ = _
          rw [e]
          simp
        · have h1 := hA.2.2.2.2.2.2.2.2.2.2.1
          have h2 := hA.2.2.2.2.2.1
          rw [← hA.2.2.2.2.2.2.2.2.2.1] at h2
          have h3 := hA.2.2.2.2.2.2.2.2.2.2.2.2
          rw [List.length_append, List.length_append, h1, h2]
          show _ + (2 + _) = _
          omega
      · go_wp2
        go_ret
        have hA := HL.out
        refine ⟨_, rfl, Row.mk' H6.out.1 (by omega) hA.2.2.2.2.1 ?_ ?_ ?_ (paint_of hA.2.2.2.1), H6.out.2⟩
        · rw [List.size_toArray]; exact hA.2.2.1
        · have e := hA.2.2.2.2.2.2.1
          show (lay (lay cur.toList (k * 2) (encS s)) ((k + 1) * 2) D).take _ = _
          rw [e]
          simp
        · have h1 := hA.2.2.2.2.2.2.2.2.2.2.1
          have h2 := hA.2.2.2.2.2.1
          rw [← hA.2.2.2.2.2.2.2.2.2.1] at h2
          have h3 := hA.2.2.2.2.2.2.2.2.2.2.2.2
          rw [List.length_append, List.length_append, h1, h2]
          show _ + (2 + _) = _
          omega
    · have hct : ¬ (c = t) := by have := HB.out; omega
      obtain ⟨w7, hrun7, h7, hg7⟩ := run_clear_col (P := Try.prog) w6 58 30 0 (.agg #[.int .i64 0, .int .i64 0]) Try.underlying58 Try.zeroValue30 _ (n - t) (c - t) g (t * 2) rfl (by omega) _ 30 H6.out.1 (by have h1 := HL.out; have := HB.out; rw [zlen, List.size_toArray]; show _ ≤ (lay (lay cur.toList (k * 2) (encS s)) ((k + 1) * 2) D).length; rw [h1.2.2.1]; omega) (zones _)
      have H7 := Lib.hid (And.intro h7 hg7)
      clear h7 hg7
      go_wp2
      go_ret
      have hA := HL.out
      refine ⟨_, rfl, Row.mk' H7.out.1 (by omega) hA.2.2.2.2.1 ?_ ?_ ?_ (paint_of hA.2.2.2.1), H6.out.2.grown H7.out.2 (fun q hq => by simp at hq; subst hq; exact paint_of hA.2.2.2.1)⟩
      · rw [List.size_toArray, length_lay]
        · exact hA.2.2.1
        · show _ ≤ (lay (lay cur.toList (k * 2) (encS s)) ((k + 1) * 2) D).length; rw [zlen, hA.2.2.1]; have := HB.out; omega
      · have e := hA.2.2.2.2.2.2.1
        show (lay (lay (lay cur.toList (k * 2) (encS s)) ((k + 1) * 2) D) (t * 2) _).take (t * 2) = _
        rw [lay_take _ _ _ (by rw [hA.2.2.1]; omega), e]
        simp
      · have h1 := hA.2.2.2.2.2.2.2.2.2.2.1
        have h2 := hA.2.2.2.2.2.1
        rw [← hA.2.2.2.2.2.2.2.2.2.1] at h2
        have h3 := hA.2.2.2.2.2.2.2.2.2.2.2.2
        rw [List.length_append, List.length_append, h1, h2]
        show _ + (2 + _) = _
        omega

set_option maxHeartbeats 2000000 in
theorem rep_none (col : Nat → Nat) (i : Nat) (w : World) (L : List Sp) (v : Value) (hr : Row col i w 30 2 v L.length (L.flatMap encS)) (hn : L.length ≤ 8796093022206) (s : Sp) (vb vc : Nat) (hvb : hp w vb = some (.cells #[.int .i64 s.1, .int .i64 s.2] 30 (0, 0))) (hne : v.ownBlock ≠ some vb) (k : Nat) (hk : k ≤ L.length) :
    Calls Try.prog 36 #[v, .int .i64 k, .int .i64 k, .slice (some ⟨vb, 0, none⟩) 1 vc] w fun e w' => ∃ v', e = .returned v' ∧ Row (paint col w i) i w' 30 2 v' (L.length + 1) ((L.take k ++ s :: L.drop k).flatMap encS) ∧ Ch col i w w' := by
  have HI := Lib.hid (c_insert col i w L v hr hn s vb vc hvb hne k hk)
  have hown := hr.own.2
  obtain ⟨n, hnn⟩ : ∃ n, L.length = n := ⟨_, rfl⟩
  rw [hnn] at hown hk
  rw [hnn] at HI
  rcases hown with ⟨rfl, hn0⟩ | ⟨g, c, cur, rfl, _, hg, hnc, hcm, hcs, htk⟩
  · subst hn0
    obtain rfl : k = 0 := by omega
    clear hr hn hvb hne hk
    rw [hnn]
    clear hnn
    rw [show ((0 : Nat) : Int) = 0 from rfl] at HI
    show Calls Try.prog 36 #[.slice none 0 0, .int .i64 0, .int .i64 0, .slice (some ⟨vb, 0, none⟩) 1 vc] w _
    go_enter Try.func36, Try.ntmps36
    go_wp2_with (go_at_call 54; (with_reducible refine HI.out.mono ?_); rintro e w1 ⟨v', rfl, h1, h2⟩; have HX := Lib.hid (And.intro h1 h2); clear h1 h2)
    go_ret
    exact ⟨_, rfl, by have e := HX.out.1; first | exact e | simpa using e, HX.out.2⟩
  · rw [hnn]
    have q1 : (k : Int) ≤ (c : Int) := by omega
    have q2 : k ≤ c := by omega
    clear hr hn hvb hne hk hg hnc hcm hcs htk hnn
    by_cases hc : c = k
    · subst hc
      go_enter Try.func36, Try.ntmps36
      go_wp2_with (go_at_call 54; (with_reducible refine HI.out.mono ?_); rintro e w1 ⟨v', rfl, h1, h2⟩; have HX := Lib.hid (And.intro h1 h2); clear h1 h2)
      go_ret
      exact ⟨_, rfl, by have e := HX.out.1; first | exact e | simpa using e, HX.out.2⟩
    · go_enter Try.func36, Try.ntmps36
      go_wp2_with (go_at_call 54; (with_reducible refine HI.out.mono ?_); rintro e w1 ⟨v', rfl, h1, h2⟩; have HX := Lib.hid (And.intro h1 h2); clear h1 h2)
      go_ret
      exact ⟨_, rfl, by have e := HX.out.1; first | exact e | simpa using e, HX.out.2⟩
theorem c_replace (col : Nat → Nat) (i : Nat) (w : World) (L : List Sp) (v : Value) (hr : Row col i w 30 2 v L.length (L.flatMap encS)) (hn : L.length ≤ 8796093022206) (s : Sp) (vb vc : Nat) (hvb : hp w vb = some (.cells #[.int .i64 s.1, .int .i64 s.2] 30 (0, 0))) (hne : v.ownBlock ≠ some vb) (k j : Nat) (hk : k ≤ j) (hj : j ≤ L.length) :
    Calls Try.prog 36 #[v, .int .i64 k, .int .i64 j, .slice (some ⟨vb, 0, none⟩) 1 vc] w fun e w' => ∃ v', e = .returned v' ∧ Row (paint col w i) i w' 30 2 v' (k + 1 + (L.length - j)) ((L.take k ++ s :: L.drop j).flatMap encS) ∧ Ch col i w w' := by
  by_cases e : k = j
  · subst e
    refine (rep_none col i w L v hr hn s vb vc hvb hne k hj).mono ?_
    rintro e w' ⟨v', rfl, h1, h2⟩
    exact ⟨v', rfl, by rw [show k + 1 + (L.length - k) = L.length + 1 by omega]; exact h1, h2⟩
  · obtain ⟨g, c, cur, rfl, hg, hnc, hcm, hcs, htk, hcol⟩ := hr.pos (by omega)
    have hne2 : vb ≠ g := fun e2 => hne (by rw [e2]; rfl)
    by_cases h : j = L.length
    · exact rep_end col i w L g c cur hg hcm hcs htk hcol hn s vb vc hvb hne2 k (by omega) hnc j h
    · exact rep_mid col i w L g c cur hg hcm hcs htk hcol hn s vb vc hvb hne2 k j (by omega) (by omega) hnc
end Go.Proofs.Ytnofclmnjhkhiaa
