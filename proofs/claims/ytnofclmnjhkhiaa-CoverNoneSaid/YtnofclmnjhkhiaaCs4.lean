/- Insert ahead of the end, where there is no room. -/
import Derived.Test.YtnofclmnjhkhiaaCs3
import Derived.Lib.AppendZerosOnto
import Derived.WalkKit
import Derived.WalkLawsBesides
import Derived.WalkSpells
import Derived.Below
import Derived.Deep.RegionHeld3
import Derived.Deep.QuietTactic
import Derived.BigQuiet
import Derived.Deep.DeepCutAuto
import Derived.Deep.DeepMust
import Derived.KernelRfl
import Derived.Lib.Hide
import Derived.Outline
import Derived.RegionTactic
import Derived.StillTailTactics
namespace Go.Proofs.Ytnofclmnjhkhiaa
open Go.RowKit Go.Cl Go.Cv
set_option maxRecDepth 100000
set_option linter.unusedVariables false
set_option linter.unusedSimpArgs false

theorem ins_taken2 (L : List Sp) (s : Sp) (k : Nat) (hk : k ≤ L.length) (R : List Value) (hR : R.take (k * 2) = (L.take k).flatMap encS) (hlen : (L.length + 1) * 2 ≤ R.length) :
    (lay (lay R (k * 2) (encS s)) ((k + 1) * 2) ((L.drop k).flatMap encS)).take ((L.length + 1) * 2) = (L.take k ++ s :: L.drop k).flatMap encS := by
  have hl : ((L.drop k).flatMap encS).length = (L.length - k) * 2 := by rw [encS_ok.length, List.length_drop]
  have hle : (encS s).length = 2 := rfl
  rw [List.flatMap_append, List.flatMap_cons, ← hR]
  generalize (L.drop k).flatMap encS = D at *
  have hc1 : (R.take (k * 2)).length = k * 2 := by rw [List.length_take]; omega
  have hc2 : (R.take (k * 2) ++ encS s).length = (k + 1) * 2 := by rw [List.length_append, hc1, hle]; omega
  have a1 : lay R (k * 2) (encS s) = (R.take (k * 2) ++ encS s) ++ R.drop (k * 2 + 2) := rfl
  have a2 : lay (lay R (k * 2) (encS s)) ((k + 1) * 2) D = (R.take (k * 2) ++ (encS s ++ D)) ++ (lay R (k * 2) (encS s)).drop ((k + 1) * 2 + D.length) := by
    rw [show lay (lay R (k * 2) (encS s)) ((k + 1) * 2) D = (lay R (k * 2) (encS s)).take ((k + 1) * 2) ++ D ++ (lay R (k * 2) (encS s)).drop ((k + 1) * 2 + D.length) from rfl]
    congr 1
    rw [a1, List.take_left' hc2, List.append_assoc]
  rw [a2, List.take_left' (by simp only [List.length_append]; omega)]
set_option maxHeartbeats 4000000 in
/-- Insert ahead of the end, where there is no room. -/
theorem ins_grow (col : Nat → Nat) (i : Nat) (w : World) (L : List Sp) (g c : Nat) (cur : Array Value) (hg : hp w g = some (.cells cur 30 (0, 0))) (hcs : cur.size = c * 2) (htk : cur.toList.take (L.length * 2) = L.flatMap encS) (hcol : col g = i) (hn : L.length ≤ 8796093022206) (s : Sp) (vb vc : Nat) (hvb : hp w vb = some (.cells #[.int .i64 s.1, .int .i64 s.2] 30 (0, 0))) (k : Nat) (hk : k < L.length) (hnc : L.length ≤ c) (hroom : c < L.length + 1) :
    Calls Try.prog 54 #[.slice (some ⟨g, 0, none⟩) L.length c, .int .i64 k, .slice (some ⟨vb, 0, none⟩) 1 vc] w fun e w' => ∃ v', e = .returned v' ∧ Row (paint col w i) i w' 30 2 v' (L.length + 1) ((L.take k ++ s :: L.drop k).flatMap encS) ∧ Ch col i w w' := by
  obtain ⟨i0, hi0, hz0, hz1, hz2⟩ := info_parts Try.info30
  obtain ⟨n, hnn⟩ : ∃ n, L.length = n := ⟨_, rfl⟩
  have hsrc := encS_ok.src L k hg htk
  have hsrc0 := encS_ok.src L 0 hg htk
  have hdl : ((L.drop k).flatMap encS).length = (L.length - k) * 2 := by rw [encS_ok.length, List.length_drop]
  have htl : ((L.take k).flatMap encS).length = k * 2 := by rw [encS_ok.length, List.length_take]; omega
  have hgl := hp_lt hg
  have hvl := hp_lt hvb
  rw [hnn] at hdl hk hroom hn hnc ⊢
  have hkk : (n : Int) + 1 - (k : Int) = ((n + 1 - k : Nat) : Int) := by omega
  have hik : k + (n + 1 - k) = n + 1 := by omega
  have hold : (Builtin.firstCells i0.size k (.slice (some ⟨g, 0, none⟩) k c)).run Try.prog w.drew = .ok ((L.take k).flatMap encS).toArray w.drew := by
    rw [hz1]
    exact run_firstCells_some w.drew 2 k ⟨g, 0, none⟩ k c ((L.take k).flatMap encS) htl (fun j v hj => by
      have e := hsrc0 j v (by
        rw [List.drop_zero]
        rw [← encS_ok.take, List.getElem?_take] at hj
        split at hj
        · exact hj
        · cases hj)
      simpa using e)
  have hrz : ∀ ty, (Builtin.append_ #[58, 3] ty #[.slice (some ⟨g, 0, none⟩) k c, .int .i64 ((n : Int) + 1 - (k : Int))]).run Try.prog w =
      .ok (.slice (some ⟨w.heap.size, 0, none⟩) (n + 1) (grownCap w (n + 1) c 30)) (w.drew.alloc (.cells (((L.take k).flatMap encS).toArray ++ Builtin.zeroCells (Value.agg #[.int .i64 0, .int .i64 0]).cells (n + 1 - k) ++ Builtin.zeroCells (Value.agg #[.int .i64 0, .int .i64 0]).cells (grownCap w (n + 1) c 30 - (n + 1))) 30)) := fun ty => by
    have h := Lib.run_append_grow_zeros w 58 3 ty 30 i0 _ .i64 .i64 Try.underlying58 Try.underlying3 hi0 hz0 (some ⟨g, 0, none⟩) k c ((L.take k).flatMap encS) hold (n + 1 - k) (by omega) (by omega) (by omega) (by omega) (by rw [hz2]; omega) (by rw [hz2, hik]; exact growslice_fits hroom (by omega))
    rw [hik] at h
    rw [hkk]
    exact h
  have hGn : n + 1 ≤ grownCap w (n + 1) c 30 := grownCap_ge w _ _ _
  have hGm : grownCap w (n + 1) c 30 ≤ maxLen := grownCap_le_maxLen w (n + 1) c 30 (by unfold maxLen; omega)
  obtain ⟨G, hG⟩ : ∃ G, G = grownCap w (n + 1) c 30 := ⟨_, rfl⟩
  obtain ⟨R, hR⟩ : ∃ R : Array Value, R = ((L.take k).flatMap encS).toArray ++ Builtin.zeroCells (Value.agg #[.int .i64 0, .int .i64 0]).cells (n + 1 - k) ++ Builtin.zeroCells (Value.agg #[.int .i64 0, .int .i64 0]).cells (G - (n + 1)) := ⟨_, rfl⟩
  rw [← hG] at hrz hGn hGm
  rw [← hR] at hrz
  have hRs : R.size = G * 2 := by
    rw [hR, Array.size_append, Array.size_append, List.size_toArray, htl, size_zeroCells, size_zeroCells]
    show k * 2 + (n + 1 - k) * 2 + (G - (n + 1)) * 2 = G * 2
    omega
  have hRt : R.toList.take (k * 2) = (L.take k).flatMap encS := by
    rw [hR, Array.toList_append, Array.toList_append, List.append_assoc]
    exact List.take_left' htl
  have hlay := ins_taken2 L s k (by omega) R.toList hRt (by simp; omega)
  rw [hnn] at hlay
  obtain ⟨W1, hW1⟩ : ∃ W1, W1 = w.drew.alloc (.cells R 30) := ⟨_, rfl⟩
  rw [← hW1] at hrz
  have hN : hp W1 w.heap.size = some (.cells R 30 (0, 0)) := by rw [hW1]; exact hp_alloc_new w.drew _
  have hb1 : Below w.heap.size w W1 := by rw [hW1]; exact below_alloc (below_drew (Below.refl _ _)) _
  have hg1 := hp_below hb1 hg
  have hv1 := hp_below hb1 hvb
  obtain ⟨w2, hrun, hN2, hw2⟩ := run_copy_col (P := Try.prog) W1 58 58 3 30 i0 2 Try.underlying58 hi0 hz1 (some ⟨w.heap.size, k * 2, none⟩) (some ⟨vb, 0, none⟩) (n + 1 - k) (G - k) 1 vc w.heap.size (k * 2) _ 30 hN 1 (by show _ = min _ _; omega) (encS s) rfl (fun _ => ⟨rfl, _, rfl, one_src hv1⟩) (by show k * 2 + 2 ≤ _; omega) (encS_ok.one s)
  have hg2 := hp_grown hg1 hw2 (by simp; omega)
  have hC2 : Ch col i w w2 := (Ch.refl.below hb1).grown hw2 (fun q hq => by simp at hq; subst hq; exact paint_new (Nat.le_refl _))
  have b1 : ¬ ((k : Int) = (n : Int)) := by omega
  have b2 : (c : Int) < (n : Int) + 1 := by omega
  have b3 : ¬ (c = k) := by omega
  have b4 : ¬ (G = k) := by omega
  have b4' : ¬ (G = k + 1) := by omega
  have b5 : k ≤ n := by omega
  have b5' : (k : Int) ≤ (n : Int) := by omega
  have b6 : k ≤ n + 1 := by omega
  have b6' : (k : Int) ≤ (n : Int) + 1 := by omega
  have b7 : k + 1 ≤ n + 1 := by omega
  have b8 : k ≤ c := by omega
  have b8' : (k : Int) ≤ (c : Int) := by omega
  have b10 : (0 : Int) ≤ (k : Int) + 1 := by omega
  have w1 : IntKind.i64.wrap ((n : Int) + 1) = (n : Int) + 1 := IntWalk.i64_in _ (by omega)
  have w2' : IntKind.i64.wrap ((k : Int) + 1) = (k : Int) + 1 := IntWalk.i64_in _ (by omega)
  have w3 : IntKind.i64.wrap ((n : Int) + 1 - (k : Int)) = (n : Int) + 1 - (k : Int) := IntWalk.i64_in _ (by omega)
  have t2 : ((k : Int) + 1).toNat = k + 1 := by omega
  have HL := Lib.hid (And.intro hlay (And.intro hdl (And.intro hRs (And.intro hGn (And.intro hGm (And.intro hnn hk))))))
  have HS := Lib.hid (And.intro hN2 (And.intro hC2 (fun j u hj => by have := hsrc j u hj; rw [Addr.add_lit] at this ⊢; rw [hp_cell hg2]; rw [hp_cell hg] at this; exact this : ∀ j u, ((L.drop k).flatMap encS)[j]? = some u → w2.cell? ((⟨g, k * 2, none⟩ : Addr).add j) = some u)))
  have HZ := Lib.hid (And.intro hi0 hz1)
  clear hgl hvl hg hcs hcol hn hvb hk hroom hnn hsrc hsrc0 hdl htk hi0 hz0 hz1 hz2 hold hkk hik hRs hRt hlay hGn hGm hN hg1 hv1 hg2 hC2 hN2 hw2 hb1 hW1 htl hR hnc hG
  go_enter Try.func54, Try.ntmps54
  go_upto_region 11 with (at_builtin; refine Lib.wpList_append_run _ rfl _ _ _ _ rfl _ _ rfl rfl _ _ (hrz _) ?_)
  clear hrz hrun
  refine Ph.region_at (by kernel_rfl) ?_
  refine Ph.at_quiet 8 (by kernel_rfl) ?_
  simp only [List.take_succ_cons, List.take_zero, List.drop_succ_cons, List.drop_zero]
  repeat ((first | (apply Ph.wpPh_g; (focus (intro w1 hS0; go_simp; first | exact rfl | exact ⟨rfl, Below.refl _ _⟩)))); simp only [Act.put, List.setIfInBounds_toArray, List.set_cons_zero, List.set_cons_succ])
  refine Ph.wpPh_nil ?_; intro w5 hS
  refine Ph.at_op rfl (by kernel_rfl) ?_
  refine wpList_copy_col rfl (.tmp 50) (.tmp 53) 58 58 rfl 30 i0 2 Try.underlying58 HZ.out.1 HZ.out.2 _ _ _ _ _ _ rfl rfl w.heap.size ((k + 1) * 2) _ 30 (hp_below (below_call (below_drew (Below.refl _ _)) hS) HS.out.1) (n - k) (by show _ = min _ _; omega) ((L.drop k).flatMap encS) HL.out.2.1 ?hpos ?hfit (encS_ok.ones _) ?kk
  case hpos => exact fun h => ⟨rfl, ⟨g, k * 2, none⟩, rfl, fun j u hj => by have := HS.out.2.2 j u hj; rw [Addr.add_lit] at this ⊢; exact cell_below (below_call (below_drew (Below.refl _ _)) hS) this⟩
  case hfit =>
    have hA := HL.out
    rw [HL.out.2.1, List.size_toArray, length_lay]
    · simp; omega
    · show k * 2 + 2 ≤ _; simp; omega
  case kk =>
    intro w3 hg3 hw3
    have hC3 : Ch col i w w3 := (HS.out.2.1.below (below_call (below_drew (Below.refl _ _)) hS)).grown hw3 (fun q hq => by simp at hq; subst hq; exact paint_new (Nat.le_refl _))
    have H3 := Lib.hid (And.intro hg3 hC3)
    clear hg3 hw3 hC3
    refine Ph.at_end (by simp) ?_
    go_wp2
    go_ret
    have hA := HL.out
    have h2 : (lay R.toList (k * 2) (encS s)).length = G * 2 := by
      rw [length_lay]
      · simp; omega
      · show k * 2 + 2 ≤ _; simp; omega
    refine ⟨_, rfl, Row.mk' H3.out.1 hA.2.2.2.1 hA.2.2.2.2.1 ?_ (by have e := hA.1; rw [List.flatMap_append, List.flatMap_cons] at e; exact e) ?_ (paint_new (Nat.le_refl _)), H3.out.2⟩
    · rw [List.size_toArray, length_lay]
      · exact h2
      · rw [h2, HL.out.2.1]; omega
    · rw [List.length_append, List.length_append, encS_ok.length, encS_ok.length, List.length_take, List.length_drop]
      show _ + (2 + _) = _
      omega

theorem c_insert (col : Nat → Nat) (i : Nat) (w : World) (L : List Sp) (v : Value) (hr : Row col i w 30 2 v L.length (L.flatMap encS)) (hn : L.length ≤ 8796093022206) (s : Sp) (vb vc : Nat) (hvb : hp w vb = some (.cells #[.int .i64 s.1, .int .i64 s.2] 30 (0, 0))) (hne : v.ownBlock ≠ some vb) (k : Nat) (hk : k ≤ L.length) :
    Calls Try.prog 54 #[v, .int .i64 k, .slice (some ⟨vb, 0, none⟩) 1 vc] w fun e w' => ∃ v', e = .returned v' ∧ Row (paint col w i) i w' 30 2 v' (L.length + 1) ((L.take k ++ s :: L.drop k).flatMap encS) ∧ Ch col i w w' := by
  by_cases e : k = L.length
  · exact ins_end col i w L v hr hn s vb vc hvb k e
  · obtain ⟨g, c, cur, rfl, hg, hnc, hcm, hcs, htk, hcol⟩ := hr.pos (by omega)
    by_cases h : L.length + 1 ≤ c
    · exact ins_room col i w L g c cur hg hcm hcs htk hcol hn s vb vc hvb (fun e2 => hne (by rw [e2]; rfl)) k (by omega) h
    · exact ins_grow col i w L g c cur hg hcs htk hcol hn s vb vc hvb k (by omega) hnc (by omega)
end Go.Proofs.Ytnofclmnjhkhiaa
