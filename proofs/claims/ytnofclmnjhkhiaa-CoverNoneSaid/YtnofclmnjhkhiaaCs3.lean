/- Insert ahead of the end, where there is room. -/
import Derived.Test.YtnofclmnjhkhiaaCs2
import Derived.Laws.Externs
import Derived.Lib.Overlaps
import Derived.WalkKit
import Derived.WalkLawsBesides
import Derived.WalkSpells
import Derived.Below
import Derived.Deep.RegionHeld3
import Derived.Deep.QuietTactic
import Derived.BigQuiet
import Derived.Deep.DeepCutAuto
import Derived.Deep.DeepMust
import Derived.KernelRfl
import Derived.Lib.Hide
import Derived.Outline
import Derived.RegionTactic
import Derived.StillTailTactics
namespace Go.Proofs.Ytnofclmnjhkhiaa
open Go.RowKit Go.Cl Go.Cv
set_option maxRecDepth 100000
set_option linter.unusedVariables false
set_option linter.unusedSimpArgs false

set_option maxHeartbeats 4000000 in
/-- Insert ahead of the end, where there is room. -/
theorem ins_room (col : Nat → Nat) (i : Nat) (w : World) (L : List Sp) (g c : Nat) (cur : Array Value) (hg : hp w g = some (.cells cur 30 (0, 0))) (hcm : c ≤ maxLen) (hcs : cur.size = c * 2) (htk : cur.toList.take (L.length * 2) = L.flatMap encS) (hcol : col g = i) (hn : L.length ≤ 8796093022206) (s : Sp) (vb vc : Nat) (hvb : hp w vb = some (.cells #[.int .i64 s.1, .int .i64 s.2] 30 (0, 0))) (hne : vb ≠ g) (k : Nat) (hk : k < L.length) (hroom : L.length + 1 ≤ c) :
    Calls Try.prog 54 #[.slice (some ⟨g, 0, none⟩) L.length c, .int .i64 k, .slice (some ⟨vb, 0, none⟩) 1 vc] w fun e w' => ∃ v', e = .returned v' ∧ Row (paint col w i) i w' 30 2 v' (L.length + 1) ((L.take k ++ s :: L.drop k).flatMap encS) ∧ Ch col i w w' := by
  obtain ⟨i0, hi0, hz0, hz1, hz2⟩ := info_parts Try.info30
  have hov : ∀ lb cb, (callFunc 55 #[.slice (some ⟨vb, 0, none⟩) 1 vc, .slice (some ⟨g, (k + 1) * 2, none⟩) lb cb]).run Try.prog w = .ok (.value (.bool false)) w := fun lb cb => by
    rw [run_callFunc_extern Try.func55 (by kernel_rfl) (by kernel_rfl) (by kernel_rfl) (e := Extern.SlicesOverlaps.overlaps #[58, 58] #[4]) (by kernel_rfl),
      Lib.run_overlaps_apart w 58 4 30 Try.underlying58 2 Try.sizeOf30 ⟨vb, 0, none⟩ ⟨g, (k + 1) * 2, none⟩ 1 vc lb cb hne 30 30 2 cur.size (hp_shape hvb) (hp_shape hg) (by omega) (hp_free hvb _) (hp_free hvb _)]
    rfl
  obtain ⟨n, hnn⟩ : ∃ n, L.length = n := ⟨_, rfl⟩
  have hlay := ins_taken L s k (by omega) cur.toList htk (by simp; omega)
  have hsrc := encS_ok.src L k hg htk
  have hdl : ((L.drop k).flatMap encS).length = (L.length - k) * 2 := by rw [encS_ok.length, List.length_drop]
  rw [hnn] at hlay hdl hk hroom hn ⊢
  have b1 : ¬ ((k : Int) = (n : Int)) := by omega
  have b2 : ¬ ((c : Int) < (n : Int) + 1) := by omega
  have b2' : (n : Int) + 1 ≤ (c : Int) := by omega
  have b3 : ¬ (c = k) := by omega
  have b4 : ¬ (c = k + 1) := by omega
  have b5 : k ≤ n := by omega
  have b5' : (k : Int) ≤ (n : Int) := by omega
  have b6 : k ≤ n + 1 := by omega
  have b6' : (k : Int) ≤ (n : Int) + 1 := by omega
  have b7 : k + 1 ≤ n + 1 := by omega
  have b8 : n + 1 ≤ c := by omega
  have b9 : (0 : Int) ≤ (n : Int) + 1 := by omega
  have b10 : (0 : Int) ≤ (k : Int) + 1 := by omega
  have w1 : IntKind.i64.wrap ((n : Int) + 1) = (n : Int) + 1 := IntWalk.i64_in _ (by omega)
  have w2 : IntKind.i64.wrap ((k : Int) + 1) = (k : Int) + 1 := IntWalk.i64_in _ (by omega)
  have t1 : ((n : Int) + 1).toNat = n + 1 := by omega
  have t2 : ((k : Int) + 1).toNat = k + 1 := by omega
  have HA := Lib.hid (And.intro hg (And.intro hcm (And.intro hcs (And.intro hcol (And.intro hn (And.intro hvb (And.intro hne (And.intro hk (And.intro hroom hnn)))))))))
  have HL := Lib.hid (And.intro hlay (And.intro hsrc hdl))
  have HZ := Lib.hid (And.intro hi0 hz1)
  clear hg hcm hcs hcol hn hvb hne hk hroom hnn hlay hsrc hdl htk hi0 hz0 hz1 hz2
  go_enter Try.func54, Try.ntmps54
  go_upto_region 15 with (simp only [hov])
  clear hov
  refine Ph.region_at (by kernel_rfl) ?_
  refine Ph.at_quiet 8 (by kernel_rfl) ?_
  simp only [List.take_succ_cons, List.take_zero, List.drop_succ_cons, List.drop_zero]
  repeat ((first | (apply Ph.wpPh_g; (focus (intro w1 hS0; go_simp; first | exact rfl | exact ⟨rfl, Below.refl _ _⟩)))); simp only [Act.put, List.setIfInBounds_toArray, List.set_cons_zero, List.set_cons_succ])
  refine Ph.wpPh_nil ?_; intro w2 hS
  refine Ph.at_op rfl (by kernel_rfl) ?_
  refine wpList_copy_col rfl (.tmp 73) (.tmp 76) 58 58 rfl 30 i0 2 Try.underlying58 HZ.out.1 HZ.out.2 _ _ _ _ _ _ rfl rfl g ((k + 1) * 2) cur 30 (hp_below (below_call (below_drew (Below.refl _ _)) hS) HA.out.1) (n - k) (by show _ = min _ _; omega) ((L.drop k).flatMap encS) HL.out.2.2 ?hpos ?hfit (encS_ok.ones _) ?k
  case hpos => exact fun h => ⟨rfl, ⟨g, k * 2, none⟩, rfl, fun j u hj => by have := HL.out.2.1 j u hj; rw [Addr.add_lit] at this ⊢; exact cell_below (below_call (below_drew (Below.refl _ _)) hS) this⟩
  case hfit => have := HA.out; rw [HL.out.2.2]; omega
  case k =>
    intro w3 hg3 hw3
    have hC3 : Ch col i w w3 := ((Ch.refl.below (below_call (below_drew (Below.refl _ _)) hS)).grown hw3 (fun q hq => by simp at hq; subst hq; exact paint_of HA.out.2.2.2.1))
    have hv3 := hp_grown (hp_below (below_call (below_drew (Below.refl _ _)) hS) HA.out.2.2.2.2.2.1) hw3 (by simp; exact HA.out.2.2.2.2.2.2.1)
    have H3 := Lib.hid (And.intro hg3 (And.intro hC3 hv3))
    clear hg3 hw3 hC3 hv3
    refine Ph.at_end (by simp) ?_
    have hA := HA.out
    have h2 : (lay cur.toList ((k + 1) * 2) ((L.drop k).flatMap encS)).length = c * 2 := by
      rw [length_lay]
      · simp; omega
      · rw [HL.out.2.2]; simp; omega
    obtain ⟨w4, hrun, hg4, hw4⟩ := run_copy_col (P := Try.prog) w3 58 58 3 30 i0 2 Try.underlying58 HZ.out.1 HZ.out.2 (some ⟨g, k * 2, none⟩) (some ⟨vb, 0, none⟩) (n + 1 - k) (c - k) 1 vc g (k * 2) _ 30 H3.out.1 1 (by show _ = min _ _; omega) (encS s) rfl (fun _ => ⟨rfl, _, rfl, one_src H3.out.2.2⟩) (by show k * 2 + 2 ≤ _; rw [List.size_toArray, h2]; omega) (encS_ok.one s)
    have H4 := Lib.hid (And.intro hg4 (And.intro hw4 h2))
    clear hg4 hw4 h2 hA
    go_wp2
    go_ret
    have hA := HA.out
    refine ⟨_, rfl, Row.mk' H4.out.1 hA.2.2.2.2.2.2.2.2.1 hA.2.1 ?_ (by have e := HL.out.1; rw [List.flatMap_append, List.flatMap_cons] at e; exact e) ?_ (paint_of hA.2.2.2.1), H3.out.2.1.grown H4.out.2.1 (fun q hq => by simp at hq; subst hq; exact paint_of hA.2.2.2.1)⟩
    · rw [List.size_toArray, length_lay]
      · exact H4.out.2.2
      · show k * 2 + 2 ≤ _
        rw [H4.out.2.2]; omega
    · rw [List.length_append, List.length_append, encS_ok.length, encS_ok.length, List.length_take, List.length_drop]
      show _ + (2 + _) = _
      omega
end Go.Proofs.Ytnofclmnjhkhiaa
