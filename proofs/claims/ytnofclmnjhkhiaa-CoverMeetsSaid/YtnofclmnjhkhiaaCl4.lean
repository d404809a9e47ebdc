/- CoverPlays: the walk. -/
import Derived.Test.YtnofclmnjhkhiaaRg
import Derived.WalkKit
import Derived.WalkLawsBesides
import Derived.WalkSpells
import Derived.Below
import Derived.Deep.RegionHeld3
import Derived.Deep.QuietTactic
import Derived.BigQuiet
import Derived.Deep.DeepCutAuto
import Derived.Deep.DeepMust
import Derived.KernelRfl
import Derived.Lib.Hide
import Derived.Outline
import Derived.RegionTactic
import Derived.StillTailTactics
namespace Go.Proofs.Ytnofclmnjhkhiaa
open Go.RowKit Go.Cl Go.Cv
set_option maxRecDepth 100000
set_option linter.unusedVariables false
set_option linter.unusedSimpArgs false

/-- A reference's cover of no spans, laid anew. -/
theorem rv_new {col : Nat → Nat} {w W : World} {r : Nat} (hr : w.heap.size = r) (hW : hp W r = some (.cells #[.slice none 0 0] 38 (0, 0))) : RvO (paint col w 2) 2 W r [] :=
  ⟨_, ⟨hW, paint_new (by omega)⟩, Row.nil'⟩

set_option maxHeartbeats 8000000 in
theorem c_plays (w : World) (v : Value) (l : List Op4) (hv : OpsR w v l) (hn : l.length ≤ 4398046511103) :
    Calls Try.prog 4 #[v] w fun e w' => e = .returned (.bool true) ∧ Below w.heap.size w w' := by
  have HV := Lib.hid hv
  obtain ⟨p, cp, rfl, hx0⟩ := hv
  obtain ⟨n, hnn⟩ : ∃ n, l.length = n := ⟨_, rfl⟩
  rw [hnn] at HV hn ⊢
  have HN := Lib.hid (And.intro hn hnn)
  clear hn hnn hx0
  go_enter Try.func4, Try.ntmps4
  go_upto_region 4 with (first | (go_at_call 10; (with_reducible refine (c_fixed _).mono ?_); rintro e w1 ⟨rfl, hb1⟩; have HB1 := Lib.hid hb1; clear hb1) | (go_at_call 11; (with_reducible refine (c_new0 zc 1 w1).mono ?_); rintro e w2 ⟨b, rfl, hb, hcv, hch⟩; have H2 := Lib.hid (And.intro hcv ((Mv.of_below (S := [1, 2]) (col := zc) HB1.out).trans (hch.mv' (by simp)))); clear hb hcv hch))
  refine Ph.at_world ?_; intro W3 hW
  obtain ⟨r, hr0⟩ : ∃ r, w2.heap.size = r := ⟨_, rfl⟩
  have k3 : hp W3 r = some (.cells #[.slice none 0 0] 38 (0, 0)) := by rw [hW, ← hr0]; simp [hpA]
  have hB3 : Below w2.heap.size w2 W3 := by rw [hW]; exact below_alloc (Below.refl _ _) _
  have H3 := Lib.hid (And.intro (H2.out.1.kept (Mv.new (S := []) hB3 2) (by simp)) (And.intro (rv_new (col := paint zc w1 1) hr0 k3) (H2.out.2.trans (Mv.new hB3 2))))
  rw [hr0]
  clear hW k3 hB3 hr0
  go_wp2
  go_loopw [5] (fun t wr => ∃ (k : Nat) (L : List Sp) (c : Nat → Nat), t = .int .i64 k ∧ k ≤ n ∧ CvO c 1 wr b L ∧ RvO c 2 wr r L ∧ Wf L ∧ L.length ≤ k ∧ Mv [1, 2] zc w c wr) (fun t _ => n - (intOf t).toNat)
  case atStart => exact ⟨0, [], _, rfl, Nat.zero_le _, H3.out.1, H3.out.2.1, Wf.nil, Nat.le_refl _, H3.out.2.2⟩
  case round =>
    obtain ⟨k, L, c, rfl, hk, hcv, hrv, hw, hl, hm⟩ := hrel
    have hbw : Below w.heap.size w wr := hm.toBelow (fun k _ => by simp [zc])
    have HI := Lib.hid (And.intro hk (And.intro hcv (And.intro hw (And.intro hl (And.intro hm hrv)))))
    clear hk hcv hw hl hm hrv
    by_cases hlt : k < n
    · have b1 : (k : Int) < (n : Int) := by omega
      have w1' : IntKind.i64.wrap ((k : Int) + 1) = (k : Int) + 1 := IntWalk.i64_in _ (by have := HN.out; omega)
      obtain ⟨o, ho⟩ := get_op (l := l) (k := k) (by rw [HN.out.2]; exact hlt)
      obtain ⟨g, f, rfl, y1, y2, y3, y4⟩ := (HV.out.below hbw).at ho
      have HL := Lib.hid (stepL_law HI.out.2.2.1 o)
      have HLB := Lib.hid (show L.length ≤ 4398046511103 by have := HI.out.2.2.2.1; have := HI.out.1; have := HN.out; omega)
      have HD := Lib.hid (c_done c wr b r L HI.out.2.1 HI.out.2.2.2.2.2 HI.out.2.2.1 (by have := HLB.out; omega) o)
      have HO := Lib.hid ho
      clear ho hbw
      obtain ⟨ct, lo', hi', X⟩ := o
      go_upto_region 8 with (first | (go_at_call 18; refine HD.out.mono ?_; rintro e w2 ⟨rfl, c2, hcv2, hrv2, hm2⟩; have H2 := Lib.hid (And.intro hcv2 (And.intro hrv2 hm2)); clear hcv2 hrv2 hm2))
      have hm2 := HI.out.2.2.2.2.1.trans H2.out.2.2
      have hbw2 : Below w.heap.size w w2 := hm2.toBelow (fun k _ => by simp [zc])
      have HM2 := Lib.hid hm2
      obtain ⟨L2, hL2⟩ : ∃ L2, stepL L (ct, lo', hi', X) = L2 := ⟨_, rfl⟩
      rw [hL2] at H2 HL
      have HA := Lib.hid (c_asked w2 b r L2 H2.out.1.rd H2.out.2.1.rd HL.out.1 (by have := HL.out.2; have := HLB.out; omega) (ct, lo', hi', X))
      clear y1 y2 y3 y4 hm2 hL2
      obtain ⟨g', f', e', y1, y2, y3, y4⟩ := (HV.out.below hbw2).at HO.out
      simp only [Option.some.injEq, Addr.mk.injEq, and_true] at e'
      obtain ⟨rfl, rfl⟩ := e'
      clear hbw2
      go_wp2_with (go_at_call 19; refine HA.out.mono ?_; rintro e w3 ⟨rfl, hb3⟩; have HB3 := Lib.hid hb3; clear hb3)
      go_roundw
      case rel => exact ⟨k + 1, L2, c2, by go_num, by omega, H2.out.1.below HB3.out, H2.out.2.1.below HB3.out, HL.out.1, by have := HL.out.2; have := HI.out.2.2.2.1; omega, HM2.out.after_below HB3.out⟩
      case measure => simp [intOf]; omega
    · have b1 : ¬ ((k : Int) < (n : Int)) := by omega
      have HBW := Lib.hid hbw; clear hbw
      go_wp2
      go_ret
      exact ⟨rfl, HBW.out⟩
end Go.Proofs.Ytnofclmnjhkhiaa
