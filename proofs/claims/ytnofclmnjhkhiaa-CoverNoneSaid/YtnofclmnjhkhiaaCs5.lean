/- Replace of what stands at the end. -/
import Derived.Test.YtnofclmnjhkhiaaCs4
import Derived.Lib.AppendZeros
import Derived.WalkKit
import Derived.WalkLawsBesides
import Derived.WalkSpells
import Derived.Below
import Derived.Deep.RegionHeld3
import Derived.Deep.QuietTactic
import Derived.BigQuiet
import Derived.Deep.DeepCutAuto
import Derived.Deep.DeepMust
import Derived.KernelRfl
import Derived.Lib.Hide
import Derived.Outline
import Derived.RegionTactic
import Derived.StillTailTactics
namespace Go.Proofs.Ytnofclmnjhkhiaa
open Go.RowKit Go.Cl Go.Cv
set_option maxRecDepth 100000
set_option linter.unusedVariables false
set_option linter.unusedSimpArgs false

theorem lay_take (X : List Value) (t : Nat) (zs : List Value) (h : t ≤ X.length) : (lay X t zs).take t = X.take t := by
  have h1 : (X.take t).length = t := by rw [List.length_take]; omega
  rw [show lay X t zs = X.take t ++ zs ++ X.drop (t + zs.length) from rfl, List.append_assoc, List.take_left' h1]
theorem rep_taken (L : List Sp) (s : Sp) (k j : Nat) (hk : k ≤ L.length) (R : List Value) (hR : R.take (k * 2) = (L.take k).flatMap encS) (hlen : (k + 1 + (L.length - j)) * 2 ≤ R.length) :
    (lay (lay R (k * 2) (encS s)) ((k + 1) * 2) ((L.drop j).flatMap encS)).take ((k + 1 + (L.length - j)) * 2) = (L.take k ++ s :: L.drop j).flatMap encS := by
  have hl : ((L.drop j).flatMap encS).length = (L.length - j) * 2 := by rw [encS_ok.length, List.length_drop]
  have hle : (encS s).length = 2 := rfl
  rw [List.flatMap_append, List.flatMap_cons, ← hR]
  generalize (L.drop j).flatMap encS = D at *
  have hc1 : (R.take (k * 2)).length = k * 2 := by rw [List.length_take]; omega
  have hc2 : (R.take (k * 2) ++ encS s).length = (k + 1) * 2 := by rw [List.length_append, hc1, hle]; omega
  have a1 : lay R (k * 2) (encS s) = (R.take (k * 2) ++ encS s) ++ R.drop (k * 2 + 2) := rfl
  have a2 : lay (lay R (k * 2) (encS s)) ((k + 1) * 2) D = (R.take (k * 2) ++ (encS s ++ D)) ++ (lay R (k * 2) (encS s)).drop ((k + 1) * 2 + D.length) := by
    rw [show lay (lay R (k * 2) (encS s)) ((k + 1) * 2) D = (lay R (k * 2) (encS s)).take ((k + 1) * 2) ++ D ++ (lay R (k * 2) (encS s)).drop ((k + 1) * 2 + D.length) from rfl]
    congr 1
    rw [a1, List.take_left' hc2, List.append_assoc]
  rw [a2, List.take_left' (by simp only [List.length_append]; omega)]
theorem zlen (m : Nat) : (Builtin.zeroCells (Value.agg #[.int .i64 0, .int .i64 0]).cells m).toList.length = m * 2 := zero_len _ _
theorem zones (m : Nat) : ∀ v ∈ (Builtin.zeroCells (Value.agg #[.int .i64 0, .int .i64 0]).cells m).toList, v.oneCell' = true := zero_ones (fun u hu => by simp [Value.cells] at hu; rcases hu with rfl | rfl <;> rfl) m
theorem clear_none (w : World) (p : Option Addr) (c : Nat) (ty : TypeId) : (Builtin.clear_ #[58] ty #[.slice p 0 c]).run Try.prog w = .ok (.tuple #[]) w := by
  cases p <;> simp [Builtin.clear_, run_underlying Try.underlying58]
set_option maxHeartbeats 4000000 in
/-- Replace of what stands at the end. -/
theorem rep_end (col : Nat → Nat) (i : Nat) (w : World) (L : List Sp) (g c : Nat) (cur : Array Value) (hg : hp w g = some (.cells cur 30 (0, 0))) (hcm : c ≤ maxLen) (hcs : cur.size = c * 2) (htk : cur.toList.take (L.length * 2) = L.flatMap encS) (hcol : col g = i) (hn : L.length ≤ 8796093022206) (s : Sp) (vb vc : Nat) (hvb : hp w vb = some (.cells #[.int .i64 s.1, .int .i64 s.2] 30 (0, 0))) (hne : vb ≠ g) (k : Nat) (hk : k < L.length) (hnc : L.length ≤ c) (j : Nat) (hj : j = L.length) :
    Calls Try.prog 36 #[.slice (some ⟨g, 0, none⟩) L.length c, .int .i64 k, .int .i64 j, .slice (some ⟨vb, 0, none⟩) 1 vc] w fun e w' => ∃ v', e = .returned v' ∧ Row (paint col w i) i w' 30 2 v' (k + 1 + (L.length - j)) ((L.take k ++ s :: L.drop j).flatMap encS) ∧ Ch col i w w' := by
  obtain ⟨i0, hi0, hz0, hz1, hz2⟩ := info_parts Try.info30
  obtain ⟨n, hnn⟩ : ∃ n, L.length = n := ⟨_, rfl⟩
  have hR : cur.toList.take (k * 2) = (L.take k).flatMap encS := by
    rw [← encS_ok.take, ← htk, List.take_take, Nat.min_eq_left (by omega)]
  have htl : ((L.take k).flatMap encS).length = k * 2 := by rw [encS_ok.length, List.length_take]; omega
  rw [hnn] at hk hn hnc hj ⊢
  subst hj
  have happ := run_append_room (P := Try.prog) (w := w) 58 58 30 i0 Try.underlying58 hi0 g k c cur hg ⟨vb, 0, none⟩ 1 vc (encS s) (by rw [hz1]; rfl) (one_src hvb) (encS_ok.one s) (by omega) (by rw [hz1]; show k * 2 + 2 ≤ _; omega)
  rw [hz1] at happ
  obtain ⟨w2, hw2e⟩ : ∃ w2, w2 = w.setRow g (cur.toList.take (k * 2) ++ encS s ++ cur.toList.drop (k * 2 + (encS s).length)).toArray := ⟨_, rfl⟩
  rw [← hw2e] at happ
  have hg2 : hp w2 g = some (.cells (lay cur.toList (k * 2) (encS s)).toArray 30 (0, 0)) := by rw [hw2e]; exact setRow_heap w g cur _ 30 _ hg
  have hC2 : Ch col i w w2 := Ch.refl.grown (by rw [hw2e]; exact grownBy_setRow w g _) (fun q hq => by simp at hq; subst hq; exact paint_of hcol)
  have hl2 : (lay cur.toList (k * 2) (encS s)).length = c * 2 := by rw [length_lay]; simp; omega; show k * 2 + 2 ≤ _; simp; omega
  have htk2 : (lay cur.toList (k * 2) (encS s)).take ((k + 1) * 2) = (L.take k ++ [s]).flatMap encS := by
    rw [show lay cur.toList (k * 2) (encS s) = (cur.toList.take (k * 2) ++ encS s) ++ cur.toList.drop (k * 2 + 2) from rfl, List.take_left' (by rw [hR, List.length_append, htl]; show k * 2 + 2 = _; omega), hR, List.flatMap_append, List.flatMap_cons, List.flatMap_nil, List.append_nil]
  have hdr : L.drop j = [] := by rw [← hnn]; exact List.drop_length
  rw [show k + 1 + (j - j) = k + 1 by omega, hdr]
  have b1 : ¬ ((k : Int) = (j : Int)) := by omega
  have b2 : (k : Int) ≤ (j : Int) := by omega
  have b2n : k ≤ j := by omega
  have b3 : (j : Int) ≤ (c : Int) := by omega
  have b4 : ¬ (c = k) := by omega
  have b5 : k ≤ c := by omega
  have b5i : (k : Int) ≤ (c : Int) := by omega
  have HL := Lib.hid (And.intro hC2 (And.intro hl2 (And.intro htk2 (And.intro hcol (And.intro hcm (And.intro hnn (And.intro htl hnc)))))))
  have HG2 := Lib.hid hg2
  have HK := Lib.hid hk
  clear hg hcs htk hcol hn hvb hne hk hnn hR htl hw2e hC2 hl2 htk2 hdr hcm hnc hg2
  have happ' : (Builtin.append_ #[58, 58] 58 #[.slice (some ⟨g, 0, none⟩) k c, .slice (some ⟨vb, 0, none⟩) 1 vc]).run Try.prog w = .ok (.slice (some ⟨g, 0, none⟩) (k + 1) c) w2 := happ
  clear happ
  by_cases hlt : k + 1 < j
  · have b6 : (k : Int) + 1 < (j : Int) := by omega
    have b7 : ¬ (c = k + 1) := by have := HL.out; omega
    have b8 : k + 1 ≤ j := by omega
    have b8i : (k : Int) + 1 ≤ (j : Int) := by omega
    have t2 : ((k : Int) + 1).toNat = k + 1 := by omega
    have b10 : (0 : Int) ≤ (k : Int) + 1 := by omega
    obtain ⟨w5, hrun, h5, hg5⟩ := run_clear_col (P := Try.prog) w2 58 30 0 (.agg #[.int .i64 0, .int .i64 0]) Try.underlying58 Try.zeroValue30 _ (j - (k + 1)) (c - (k + 1)) g ((k + 1) * 2) rfl (by omega) _ 30 HG2.out (by have := HL.out; rw [zlen, List.size_toArray, this.2.1]; omega) (zones _)
    have H5 := Lib.hid (And.intro h5 hg5)
    clear h5 hg5
    go_enter Try.func36, Try.ntmps36
    go_wp2_with (at_builtin; refine Lib.wpList_append_run _ rfl _ _ _ _ rfl _ _ rfl rfl _ _ happ' ?_)
    go_ret
    have hA := HL.out
    refine ⟨_, rfl, Row.mk' H5.out.1 (by omega) hA.2.2.2.2.1 ?_ ?_ ?_ (paint_of hA.2.2.2.1), hA.1.grown H5.out.2 (fun q hq => by simp at hq; subst hq; exact paint_of hA.2.2.2.1)⟩
    · rw [List.size_toArray, length_lay]
      · exact hA.2.1
      · rw [zlen]; show _ ≤ (lay cur.toList (k * 2) (encS s)).length; rw [hA.2.1]; omega
    · have e := hA.2.2.1
      show (lay (lay cur.toList (k * 2) (encS s)) ((k + 1) * 2) _).take ((k + 1) * 2) = _
      rw [lay_take _ _ _ (by rw [hA.2.1]; omega), e]
      simp
    · have := hA.2.2.2.2.2.2.1
      simp [encS_ok.length, encS] at this ⊢
      omega
  · have b6 : ¬ ((k : Int) + 1 < (j : Int)) := by omega
    go_enter Try.func36, Try.ntmps36
    go_wp2_with (at_builtin; refine Lib.wpList_append_run _ rfl _ _ _ _ rfl _ _ rfl rfl _ _ happ' ?_)
    go_ret
    have hA := HL.out
    refine ⟨_, rfl, Row.mk' HG2.out (by omega) hA.2.2.2.2.1 ?_ ?_ ?_ (paint_of hA.2.2.2.1), hA.1⟩
    · rw [List.size_toArray]; exact hA.2.1
    · have e := hA.2.2.1
      show (lay cur.toList (k * 2) (encS s)).take ((k + 1) * 2) = _
      rw [e]
      simp
    · have := hA.2.2.2.2.2.2.1
      simp [encS_ok.length, encS] at this ⊢
      omega
end Go.Proofs.Ytnofclmnjhkhiaa
