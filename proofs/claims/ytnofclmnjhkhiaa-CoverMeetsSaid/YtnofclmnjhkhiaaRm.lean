/- The reference's Meet of two covers. -/
import Derived.Test.YtnofclmnjhkhiaaRe2
import Derived.Test.YtnofclmnjhkhiaaCw
import Derived.Test.YtnofclmnjhkhiaaRb2
import Derived.Test.YtnofclmnjhkhiaaRc
import Derived.WalkKit
import Derived.WalkLawsBesides
import Derived.WalkSpells
import Derived.Below
import Derived.Deep.RegionHeld3
import Derived.Deep.QuietTactic
import Derived.BigQuiet
import Derived.Deep.DeepCutAuto
import Derived.Deep.DeepMust
import Derived.KernelRfl
import Derived.Lib.Hide
import Derived.Outline
import Derived.RegionTactic
import Derived.StillTailTactics
namespace Go.Proofs.Ytnofclmnjhkhiaa
open Go.RowKit Go.Cl Go.Cv
set_option maxRecDepth 100000
set_option linter.unusedVariables false
set_option linter.unusedSimpArgs false

set_option maxHeartbeats 8000000 in
/-- The reference's Meet. -/
theorem c_rmeetC (w : World) (a b : Nat) (A Bl : List Sp) (hA : CvR w a A) (hB : CvR w b Bl) (hnA : A.length ≤ 4398046511103) (hnB : Bl.length ≤ 4398046511103) :
    Calls Try.prog 29 #[.pointer (some ⟨a, 0, none⟩), .pointer (some ⟨b, 0, none⟩)] w fun e w' => ∃ r, e = .returned (.pointer (some ⟨r, 0, none⟩)) ∧ RvO (paint zc w 1) 1 w' r (MR Bl A) ∧ Below w.heap.size w w' := by
  obtain ⟨pA, cA, hcA, hrA⟩ := hA.open
  obtain ⟨pB, cB, hcB, hrB⟩ := hB.open
  obtain ⟨n, hn⟩ : ∃ n, A.length = n := ⟨_, rfl⟩
  obtain ⟨n2, hn2⟩ : ∃ n2, Bl.length = n2 := ⟨_, rfl⟩
  rw [hn] at hcA hrA hnA
  rw [hn2] at hcB hrB hnB
  have HA := Lib.hid (And.intro hcA (And.intro hrA (And.intro hnA hn)))
  have HBl := Lib.hid (And.intro hcB (And.intro hrB (And.intro hnB hn2)))
  clear hA hB hcA hrA hcB hrB hn hn2 hnA hnB
  go_enter Try.func29, Try.ntmps29
  go_upto_region 2 with fail
  refine Ph.at_world ?_; intro W1 hW
  obtain ⟨r, hr⟩ : ∃ r, w.heap.size = r := ⟨_, rfl⟩
  have k1 : hp W1 r = some (.cells #[.slice none 0 0] 38 (0, 0)) := by rw [hW, ← hr]; simp [hpA]
  have hB1 : Below w.heap.size w W1 := by rw [hW]; exact below_alloc (Below.refl _ _) _
  have H1 := Lib.hid (And.intro (show RvO (paint zc w 1) 1 W1 r [] from ⟨_, ⟨k1, paint_new (by omega)⟩, Row.nil'⟩) (Ch.of_below (col := zc) (i := 1) hB1))
  rw [hr]
  clear hW k1 hB1 hr
  go_wp2
  go_loopw [6] (fun t wr => ∃ i : Nat, t = .int .i64 i ∧ i ≤ n ∧ RvO (paint zc w 1) 1 wr r (MR Bl (A.take i)) ∧ Ch zc 1 w wr) (fun t _ => n - (intOf t).toNat)
  case atStart => exact ⟨0, rfl, Nat.zero_le _, H1.out.1, H1.out.2⟩
  case round =>
    obtain ⟨i, rfl, hi, hrv, hch⟩ := hrel
    have hbw : Below w.heap.size w wr := hch.mv.toBelow (fun k _ => by simp [zc])
    have HI := Lib.hid (And.intro hi (And.intro hrv (And.intro hch hbw)))
    have cA0 := cell_below hbw HA.out.1
    clear hi hrv hch
    by_cases hlt : i < n
    · have b1 : (i : Int) < (n : Int) := by omega
      have w1' : IntKind.i64.wrap ((i : Int) + 1) = (i : Int) + 1 := IntWalk.i64_in _ (by have := HA.out.2.2.1; omega)
      obtain ⟨⟨s1, s2⟩, hs⟩ := get_lt (L := A) (k := i) (by rw [HA.out.2.2.2]; exact hlt)
      have htk : A.take (i + 1) = A.take i ++ [(s1, s2)] := by rw [List.take_add_one, hs]; rfl
      have hMR : MR Bl (A.take (i + 1)) = inR (s1, s2) (MR Bl (A.take i)) Bl := by rw [htk, MR_snoc]
      have hgd : Good (A.take (i + 1)) Bl (MR Bl (A.take i)) := by rw [htk]; exact (MR_good Bl A i).more _
      have hsm : (s1, s2) ∈ A.take (i + 1) := by rw [htk]; simp
      have hln : (A.take (i + 1)).length ≤ n := by rw [List.length_take, HA.out.2.2.2]; omega
      have HM := Lib.hid (And.intro hMR (And.intro hgd (And.intro hsm (And.intro hln hs))))
      clear htk hMR hgd hsm hln hs hbw
      go_wp2
      go_loopw [7] (fun t wr => ∃ j : Nat, t = .int .i64 j ∧ j ≤ n2 ∧ RvO (paint zc w 1) 1 wr r (inR (s1, s2) (MR Bl (A.take i)) (Bl.take j)) ∧ Ch zc 1 w wr) (fun t _ => n2 - (intOf t).toNat)
      case atStart => exact ⟨0, rfl, Nat.zero_le _, HI.out.2.1, HI.out.2.2.1⟩
      case round =>
        obtain ⟨j, rfl, hj, hrv, hch⟩ := hrel
        have hbw : Below w.heap.size w wr := hch.mv.toBelow (fun k _ => by simp [zc])
        have HJ := Lib.hid (And.intro hj (And.intro hrv (And.intro hch hbw)))
        have cA1 := cell_below hbw HA.out.1
        have cB1 := cell_below hbw HBl.out.1
        clear hj hrv hch cA0
        by_cases hlt2 : j < n2
        · have b2 : (j : Int) < (n2 : Int) := by omega
          have w2' : IntKind.i64.wrap ((j : Int) + 1) = (j : Int) + 1 := IntWalk.i64_in _ (by have := HBl.out.2.2.1; omega)
          obtain ⟨⟨d1, d2⟩, hd⟩ := get_lt (L := Bl) (k := j) (by rw [HBl.out.2.2.2]; exact hlt2)
          obtain ⟨g, o, rfl, y1, y2⟩ := (HA.out.2.1.below hbw).at HM.out.2.2.2.2
          obtain ⟨g', o', rfl, y3, y4⟩ := (HBl.out.2.1.below hbw).at hd
          have HY := Lib.hid (And.intro y1 (And.intro y2 (And.intro y3 (And.intro y4 (And.intro cA1 cB1)))))
          obtain ⟨⟨m1, m2⟩, hmm⟩ : ∃ q : Sp, ofS (max s1 d1) (min s2 d2) = q := ⟨_, rfl⟩
          have HC := Lib.hid (fun w => show Calls Try.prog 51 #[.agg #[.int .i64 s1, .int .i64 s2], .agg #[.int .i64 d1, .int .i64 d2]] w fun e w' => e = .returned (.agg #[.int .i64 m1, .int .i64 m2]) ∧ Below w.heap.size w w' by have := c_rmeet s1 s2 d1 d2 w; rw [hmm] at this; exact this)
          have hst := inR_take (s1, s2) (MR Bl (A.take i)) Bl j (d1, d2) hd
          rw [show mt (s1, s2) (d1, d2) = (m1, m2) from hmm] at hst
          have HST := Lib.hid hst
          have hg2 : Good (A.take (i + 1)) Bl (inR (s1, s2) (MR Bl (A.take i)) (Bl.take j)) := inR_good HM.out.2.2.1 _ _ HM.out.2.1 (fun x hx => List.mem_of_mem_take hx)
          have HG2 := Lib.hid (And.intro hg2.1 (show (inR (s1, s2) (MR Bl (A.take i)) (Bl.take j)).length ≤ 8796093022206 by have := hg2.len; have := HM.out.2.2.2.1; have := HA.out.2.2.1; have := HBl.out.2.2; omega))
          clear hd hmm hst hg2 hbw y1 y2 y3 y4 cA1 cB1
          have cA1 := HY.out.2.2.2.2.1
          have cB1 := HY.out.2.2.2.2.2
          go_upto_region 8 with fail
          clear cA1 cB1
          refine Ph.region_at (by kernel_rfl) ?_
          refine Ph.at_quiet 16 (by kernel_rfl) ?_
          simp only [List.take_succ_cons, List.take_zero, List.drop_succ_cons, List.drop_zero]
          repeat ((first | (apply Ph.wpPh_g; (focus (intro wx hS0; have hz := below_call (below_drew (Below.refl wr.heap.size wr)) hS0; have z1 := cell_below hz HY.out.1; have z2 := cell_below hz HY.out.2.1; have z3 := cell_below hz HY.out.2.2.1; have z4 := cell_below hz HY.out.2.2.2.1; have z5 := cell_below hz HY.out.2.2.2.2.1; have z6 := cell_below hz HY.out.2.2.2.2.2; go_simp; first | exact rfl | exact ⟨rfl, Below.refl _ _⟩ | ((with_reducible refine (HC.out _).mono ?_); rintro e w2 ⟨rfl, hb⟩; exact ⟨rfl, hb⟩))))); simp only [Act.put, List.setIfInBounds_toArray, List.set_cons_zero, List.set_cons_succ])
          refine Ph.wpPh_nil ?_; intro w9 hS9
          have HB9 := Lib.hid (below_call (below_drew (Below.refl wr.heap.size wr)) hS9); clear hS9
          refine Ph.at_op rfl (by kernel_rfl) ?_
          go_wp2_with (go_at_call 40; refine (c_raddO (paint zc w 1) 1 w9 r _ (HJ.out.2.1.below HB9.out) HG2.out.1 HG2.out.2 m1 m2).mono ?_; rintro e w10 ⟨rfl, hcv, hch⟩; have H10 := Lib.hid (And.intro hcv hch); clear hcv hch)
          refine Ph.at_end (by simp) ?_
          go_wp2
          go_roundw
          case rel =>
            have hX := H10.out.1
            have hsz : w.heap.size ≤ w9.heap.size := Nat.le_trans HJ.out.2.2.2.size HB9.out.size
            rw [paint_paint hsz, ← HST.out] at hX
            exact ⟨j + 1, by go_num, by omega, hX, (HJ.out.2.2.1.below HB9.out).trans H10.out.2⟩
          case measure => simp [intOf]; omega
        · obtain rfl : j = n2 := by have := HJ.out.1; omega
          have b2 : ¬ ((j : Int) < (j : Int)) := by omega
          go_wp2
          go_roundw
          case rel =>
            have hX := HJ.out.2.1
            have ht : Bl.take j = Bl := by rw [← HBl.out.2.2.2]; exact List.take_length
            rw [ht, ← HM.out.1] at hX
            exact ⟨i + 1, by go_num, by omega, hX, HJ.out.2.2.1⟩
          case measure => simp [intOf]; omega
    · obtain rfl : i = n := by have := HI.out.1; omega
      have b1 : ¬ ((i : Int) < (i : Int)) := by omega
      clear hbw
      go_wp2
      go_ret
      have hX := HI.out.2.1
      have ht : A.take i = A := by rw [← HA.out.2.2.2]; exact List.take_length
      rw [ht] at hX
      exact ⟨r, rfl, hX, HI.out.2.2.2⟩
end Go.Proofs.Ytnofclmnjhkhiaa
