/- CoverAll: the walk. -/
import Derived.Test.YtnofclmnjhkhiaaCl4
import Derived.Test.YtnofclmnjhkhiaaCn
import Derived.Test.YtnofclmnjhkhiaaCj
import Derived.WalkKit
import Derived.WalkLawsBesides
import Derived.WalkSpells
import Derived.Below
import Derived.Deep.RegionHeld3
import Derived.Deep.QuietTactic
import Derived.BigQuiet
import Derived.Deep.DeepCutAuto
import Derived.Deep.DeepMust
import Derived.KernelRfl
import Derived.Lib.Hide
import Derived.Outline
import Derived.RegionTactic
import Derived.StillTailTactics
namespace Go.Proofs.Ytnofclmnjhkhiaa
open Go.RowKit Go.Cl Go.Cv
set_option maxRecDepth 100000
set_option linter.unusedVariables false
set_option linter.unusedSimpArgs false

set_option maxHeartbeats 8000000 in
theorem c_all (w : World) (v : Value) (l : List Op4) (hv : OpsR w v l) (hn : l.length ≤ 4398046511103) :
    Calls Try.prog 6 #[v] w fun e w' => e = .returned (.bool true) ∧ Below w.heap.size w w' := by
  have HV := Lib.hid hv
  obtain ⟨p, cp, rfl, hx0⟩ := hv
  obtain ⟨n, hnn⟩ : ∃ n, l.length = n := ⟨_, rfl⟩
  rw [hnn] at HV hn ⊢
  have HN := Lib.hid (And.intro hn hnn)
  clear hn hnn hx0
  go_enter Try.func6, Try.ntmps6
  go_upto_region 4 with (first | (go_at_call 10; (with_reducible refine (c_fixed _).mono ?_); rintro e w1 ⟨rfl, hb1⟩; have HB1 := Lib.hid hb1; clear hb1) | (go_at_call 11; (with_reducible refine (c_new0 zc 1 w1).mono ?_); rintro e w2 ⟨b, rfl, hb, hcv, hch⟩; have H2 := Lib.hid (And.intro hcv ((Mv.of_below (S := [1, 2]) (col := zc) HB1.out).trans (hch.mv' (by simp)))); clear hb hcv hch))
  refine Ph.at_world ?_; intro W3 hW
  obtain ⟨r, hr0⟩ : ∃ r, w2.heap.size = r := ⟨_, rfl⟩
  have k3 : hp W3 r = some (.cells #[.slice none 0 0] 38 (0, 0)) := by rw [hW, ← hr0]; simp [hpA]
  have hB3 : Below w2.heap.size w2 W3 := by rw [hW]; exact below_alloc (Below.refl _ _) _
  have H3 := Lib.hid (And.intro (H2.out.1.kept (Mv.new (S := []) hB3 2) (by simp)) (And.intro (rv_new (col := paint zc w1 1) hr0 k3) (H2.out.2.trans (Mv.new hB3 2))))
  rw [hr0]
  clear hW k3 hB3 hr0
  go_wp2
  go_loopw [5] (fun t wr => ∃ (k : Nat) (L : List Sp) (c : Nat → Nat), t = .int .i64 k ∧ k ≤ n ∧ CvO c 1 wr b L ∧ RvO c 2 wr r L ∧ Wf L ∧ L.length ≤ k ∧ Mv [1, 2] zc w c wr) (fun t _ => n - (intOf t).toNat)
  case atStart => exact ⟨0, [], _, rfl, Nat.zero_le _, H3.out.1, H3.out.2.1, Wf.nil, Nat.le_refl _, H3.out.2.2⟩
  case round =>
    obtain ⟨k, L, c, rfl, hk, hcv, hrv, hw, hl, hm⟩ := hrel
    have hbw : Below w.heap.size w wr := hm.toBelow (fun k _ => by simp [zc])
    have HI := Lib.hid (And.intro hk (And.intro hcv (And.intro hw (And.intro hl (And.intro hm hrv)))))
    clear hk hcv hw hl hm hrv
    by_cases hlt : k < n
    · have b1 : (k : Int) < (n : Int) := by omega
      have w1' : IntKind.i64.wrap ((k : Int) + 1) = (k : Int) + 1 := IntWalk.i64_in _ (by have := HN.out; omega)
      obtain ⟨o, ho⟩ := get_op (l := l) (k := k) (by rw [HN.out.2]; exact hlt)
      obtain ⟨g, f, rfl, y1, y2, y3, y4⟩ := (HV.out.below hbw).at ho
      have HL := Lib.hid (stepL_law HI.out.2.2.1 o)
      have HLB := Lib.hid (show L.length ≤ 4398046511103 by have := HI.out.2.2.2.1; have := HI.out.1; have := HN.out; omega)
      have HD := Lib.hid (c_done c wr b r L HI.out.2.1 HI.out.2.2.2.2.2 HI.out.2.2.1 (by have := HLB.out; omega) o)
      clear ho hbw
      obtain ⟨ct, lo', hi', X⟩ := o
      go_wp2_with (go_at_call 18; refine HD.out.mono ?_; rintro e w2 ⟨rfl, c2, hcv2, hrv2, hm2⟩; have H2 := Lib.hid (And.intro hcv2 (And.intro hrv2 hm2)); clear hcv2 hrv2 hm2)
      go_roundw
      case rel => exact ⟨k + 1, _, c2, by go_num, by omega, H2.out.1, H2.out.2.1, HL.out.1, by have := HL.out.2; have := HI.out.2.2.2.1; omega, HI.out.2.2.2.2.1.trans H2.out.2.2⟩
      case measure => simp [intOf]; omega
    · have b1 : ¬ ((k : Int) < (n : Int)) := by omega
      have HBW := Lib.hid hbw; clear hbw
      have HLB := Lib.hid (show L.length ≤ 4398046511104 by have := HI.out.2.2.2.1; have := HI.out.1; have := HN.out; omega)
      obtain ⟨pr, cr, hcr, hrr⟩ := HI.out.2.2.2.2.2.rd.open
      have HC := Lib.hid (cell_below (below_drew (Below.refl wr.heap.size wr)) hcr)
      have HRR := Lib.hid (hrr.below (below_drew (Below.refl wr.heap.size wr)))
      have HLS := Lib.hid (fun w1 (hb : Below wr.heap.size wr w1) => c_listed w1 (some ⟨b, 0, none⟩) L (.inr ⟨b, rfl, HI.out.2.1.rd.below hb⟩) HLB.out)
      obtain ⟨n2, hn2⟩ : ∃ n2, L.length = n2 := ⟨_, rfl⟩
      have HN2 := Lib.hid hn2
      clear hcr hrr
      rw [hn2] at HC HRR HLS
      clear hn2
      go_wp2
      refine Ph.region_at (by kernel_rfl) ?_
      refine Ph.at_ghost 6 1 25 (fun g : Option Addr × Nat => Value.slice g.1 n2 g.2) (fun g w1 => RdL w1 (.slice g.1 n2 g.2) L) (fun g a b h hb => RdL.below h hb) (by kernel_rfl) (by kernel_rfl) (by decide) (by decide) rfl ?_
      simp only [List.take_succ_cons, List.take_zero, List.drop_succ_cons, List.drop_zero]
      (first | (apply Ph.wpGh_g (by decide); (focus (intro w1 hS0; have c4 := cell_below hS0 HC.out; go_simp; first | exact rfl | exact ⟨rfl, Below.refl _ _⟩)))); simp only [Act.put, List.setIfInBounds_toArray, List.set_cons_zero, List.set_cons_succ]
      refine Ph.wpGh_e rfl ?_ ?_
      · intro w1 hS0; have c4 := cell_below hS0 HC.out; go_simp; refine (HLS.out w1 (below_call (below_drew (Below.refl _ _)) hS0)).mono ?_; rintro e w2 ⟨v', rfl, hr', hb'⟩; have hrd := own_rdl (HN2.out ▸ hr' : World.ownsRow w2 w1.heap.size 53 2 v' L.length (L.flatMap encS)); obtain ⟨p', c', rfl, _⟩ := id hrd; rw [HN2.out] at hrd ⊢; exact ⟨_, rfl, p', c', rfl, hb', hrd⟩
      (first | (apply Ph.wpGh_g (by decide); (focus (intro w1 hS0; have c4 := cell_below hS0 HC.out; go_simp; first | exact rfl | exact ⟨rfl, Below.refl _ _⟩)))); simp only [Act.put, List.setIfInBounds_toArray, List.set_cons_zero, List.set_cons_succ]
      (first | (apply Ph.wpGh_g (by decide); (focus (intro w1 hS0; have c4 := cell_below hS0 HC.out; go_simp; first | exact rfl | exact ⟨rfl, Below.refl _ _⟩)))); simp only [Act.put, List.setIfInBounds_toArray, List.set_cons_zero, List.set_cons_succ]
      (first | (apply Ph.wpGh_g (by decide); (focus (intro w1 hS0; have c4 := cell_below hS0 HC.out; go_simp; first | exact rfl | exact ⟨rfl, Below.refl _ _⟩)))); simp only [Act.put, List.setIfInBounds_toArray, List.set_cons_zero, List.set_cons_succ]
      (first | (apply Ph.wpGh_g (by decide); (focus (intro w1 hS0; have c4 := cell_below hS0 HC.out; go_simp; first | exact rfl | exact ⟨rfl, Below.refl _ _⟩)))); simp only [Act.put, List.setIfInBounds_toArray, List.set_cons_zero, List.set_cons_succ]
      refine Ph.wpGh_nil ?_; intro g1 w2 hS2 hG1; simp only [Act.put, List.setIfInBounds_toArray, List.set_cons_zero, List.set_cons_succ]
      refine Ph.at_op rfl (by kernel_rfl) ?_
      
      have HB2 := Lib.hid (below_call (below_drew (Below.refl wr.heap.size wr)) hS2)
      go_wp2_with (go_at_call 23; refine (c_same w2 (.slice g1.1 n2 g1.2) _ L HLB.out hG1 (HRR.out.below hS2)).mono ?_; rintro e w3 ⟨rfl, hb3⟩; have HB3 := Lib.hid hb3; clear hb3)
      refine Ph.at_quiet 8 (by kernel_rfl) ?_
      simp only [List.take_succ_cons, List.take_zero, List.drop_succ_cons, List.drop_zero]
      repeat ((first | (apply Ph.wpPh_g; (focus (intro w1 hS0; go_simp; first | exact rfl | exact ⟨rfl, Below.refl _ _⟩)))); simp only [Act.put, List.setIfInBounds_toArray, List.set_cons_zero, List.set_cons_succ])
      refine Ph.wpPh_nil ?_; intro w4 hS4
      refine Ph.at_end (by simp) ?_
      have HB4 := Lib.hid hS4; clear hS4
      go_wp2
      go_ret
      exact ⟨rfl, below_call HBW.out (below_call HB2.out (below_call HB3.out HB4.out))⟩
end Go.Proofs.Ytnofclmnjhkhiaa
