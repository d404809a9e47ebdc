/- Recent: what the document fixes. -/
import Derived.Test.YtgacbfbjikjanaaRec10
import Derived.WalkKit
import Derived.WalkLawsBesides
import Derived.WalkSpells
import Derived.Below
import Derived.Deep.RegionHeld3
import Derived.Deep.QuietTactic
import Derived.BigQuiet
import Derived.Deep.DeepCutAuto
import Derived.Deep.DeepMust
import Derived.KernelRfl
import Derived.Lib.Hide
import Derived.Outline
import Derived.RegionTactic
import Derived.StillTailTactics
namespace Go.Proofs.Ytgacbfbjikjanaa
open Go.RowKit Go.Cl
set_option maxRecDepth 100000
set_option linter.unusedVariables false
set_option linter.unusedSimpArgs false


theorem keys_new (c : Nat → Nat) (S : List Nat) (hS : 0 ∉ S) (W : World) (ks : List ByteArray) (hk : ks.length ≤ 1000) :
    KeysIn (paint c W 0) S (W.alloc (.cells (ks.map Value.string).toArray 9)) (.slice (some ⟨W.heap.size, 0, none⟩) ks.length ks.length) ks := by
  refine ⟨_, _, rfl, by unfold maxLen; omega, Nat.le_refl _, fun k h => ⟨W.heap.size, 0, rfl, ?_, by rw [paint_new (Nat.le_refl _)]; exact hS⟩⟩
  rw [hp_cell (hp_alloc_new W _)]
  simp [h]
set_option maxHeartbeats 2000000 in
theorem fixed27 (w : World) : Calls Try.prog 27 #[] w fun e w' => e = .returned (.bool true) ∧ Below w.heap.size w w' := by
  have hz : ∀ k, k < w.heap.size → zc k ∉ [1] := fun k _ => by simp [zc]
  go_enter Try.func27, Try.ntmps27
  go_wp2_with fail
  refine (rc_new zc 1 w 3 5).mono ?_; rintro e w1 ⟨b, rfl, hB0, HC⟩
  have hM := HC.mv
  generalize paint zc w 1 = c0 at hB0 hM
  have hB : Rec c0 1 w1 b [] 3 5 5 := hB0
  clear hB0 HC
  go_wp2_with fail
  have HBk := below_alloc (Below.refl w1.heap.size w1) (.cells #[.string ⟨#[97]⟩, .string ⟨#[98]⟩] 9)
  have hB' := hB.kept (Mv.new (S := []) HBk 0) (by simp)
  have hK : KeysAt (paint c0 w1 0) 1 (w1.alloc (.cells #[.string ⟨#[97]⟩, .string ⟨#[98]⟩] 9)) (.slice (some ⟨w1.heap.size, 0, none⟩) 2 2) [⟨#[97]⟩, ⟨#[98]⟩] := (keys_new c0 [1] (by simp) w1 [⟨#[97]⟩, ⟨#[98]⟩] (by decide)).at (by simp)
  refine (rc_note _ 1 _ b [] 3 5 5 6 _ [⟨#[97]⟩, ⟨#[98]⟩] hB' hK).mono ?_; rintro e w2 ⟨rfl, hB2, hC2⟩
  replace hM := (hM.trans (Mv.new HBk 0)).trans (hC2.mv' (by simp))
  generalize paint (paint c0 w1 0) (w1.alloc (.cells #[.string ⟨#[97]⟩, .string ⟨#[98]⟩] 9)) 1 = c1 at hB2 hM
  clear hB hB' hK hC2 HBk
  have hB : Rec c1 1 w2 b [(6, ⟨#[97]⟩), (6, ⟨#[98]⟩)] 3 5 6 := by have e1 : nL 3 [] 5 5 6 [⟨#[97]⟩, ⟨#[98]⟩] = [(6, ⟨#[97]⟩), (6, ⟨#[98]⟩)] := rfl; have e2 : nS 3 [] 5 5 6 [⟨#[97]⟩, ⟨#[98]⟩] = 5 := rfl; have e3 : nT 5 6 = 6 := rfl; rw [e1, e2, e3] at hB2; exact hB2
  clear hB2
  rw [show okB 5 6 = true from rfl]
  go_wp2_with fail
  have HBk := below_alloc (Below.refl w2.heap.size w2) (.cells #[.string ⟨#[97]⟩] 9)
  have hB' := hB.kept (Mv.new (S := []) HBk 0) (by simp)
  have hK : KeysAt (paint c1 w2 0) 1 (w2.alloc (.cells #[.string ⟨#[97]⟩] 9)) (.slice (some ⟨w2.heap.size, 0, none⟩) 1 1) [⟨#[97]⟩] := (keys_new c1 [1] (by simp) w2 [⟨#[97]⟩] (by decide)).at (by simp)
  refine (rc_note _ 1 _ b [(6, ⟨#[97]⟩), (6, ⟨#[98]⟩)] 3 5 6 8 _ [⟨#[97]⟩] hB' hK).mono ?_; rintro e w3 ⟨rfl, hB2, hC2⟩
  replace hM := (hM.trans (Mv.new HBk 0)).trans (hC2.mv' (by simp))
  generalize paint (paint c1 w2 0) (w2.alloc (.cells #[.string ⟨#[97]⟩] 9)) 1 = c2 at hB2 hM
  clear hB hB' hK hC2 HBk
  have hB : Rec c2 1 w3 b [(6, ⟨#[97]⟩), (6, ⟨#[98]⟩), (8, ⟨#[97]⟩)] 3 5 8 := by have e1 : nL 3 [(6, ⟨#[97]⟩), (6, ⟨#[98]⟩)] 5 6 8 [⟨#[97]⟩] = [(6, ⟨#[97]⟩), (6, ⟨#[98]⟩), (8, ⟨#[97]⟩)] := rfl; have e2 : nS 3 [(6, ⟨#[97]⟩), (6, ⟨#[98]⟩)] 5 6 8 [⟨#[97]⟩] = 5 := rfl; have e3 : nT 6 8 = 8 := rfl; rw [e1, e2, e3] at hB2; exact hB2
  clear hB2
  rw [show okB 6 8 = true from rfl]
  go_wp2_with fail
  have HBk := below_alloc (Below.refl w3.heap.size w3) (.cells #[.string ⟨#[99]⟩] 9)
  have hB' := hB.kept (Mv.new (S := []) HBk 0) (by simp)
  have hK : KeysAt (paint c2 w3 0) 1 (w3.alloc (.cells #[.string ⟨#[99]⟩] 9)) (.slice (some ⟨w3.heap.size, 0, none⟩) 1 1) [⟨#[99]⟩] := (keys_new c2 [1] (by simp) w3 [⟨#[99]⟩] (by decide)).at (by simp)
  refine (rc_note _ 1 _ b [(6, ⟨#[97]⟩), (6, ⟨#[98]⟩), (8, ⟨#[97]⟩)] 3 5 8 8 _ [⟨#[99]⟩] hB' hK).mono ?_; rintro e w4 ⟨rfl, hB2, hC2⟩
  replace hM := (hM.trans (Mv.new HBk 0)).trans (hC2.mv' (by simp))
  generalize paint (paint c2 w3 0) (w3.alloc (.cells #[.string ⟨#[99]⟩] 9)) 1 = c3 at hB2 hM
  clear hB hB' hK hC2 HBk
  have hB : Rec c3 1 w4 b [(6, ⟨#[97]⟩), (6, ⟨#[98]⟩), (8, ⟨#[97]⟩)] 3 5 8 := by have e1 : nL 3 [(6, ⟨#[97]⟩), (6, ⟨#[98]⟩), (8, ⟨#[97]⟩)] 5 8 8 [⟨#[99]⟩] = [(6, ⟨#[97]⟩), (6, ⟨#[98]⟩), (8, ⟨#[97]⟩)] := rfl; have e2 : nS 3 [(6, ⟨#[97]⟩), (6, ⟨#[98]⟩), (8, ⟨#[97]⟩)] 5 8 8 [⟨#[99]⟩] = 5 := rfl; have e3 : nT 8 8 = 8 := rfl; rw [e1, e2, e3] at hB2; exact hB2
  clear hB2
  rw [show okB 8 8 = false from rfl]
  go_wp2_with fail

  refine (rc_covers c3 1 w4 b _ _ _ _ hB 5).mono ?_; rintro e w' ⟨rfl, rfl⟩
  rw [show covB 5 8 5 = true from rfl]
  go_wp2_with fail
  refine (rc_covers c3 1 w4 b _ _ _ _ hB 4).mono ?_; rintro e w' ⟨rfl, rfl⟩
  rw [show covB 5 8 4 = false from rfl]
  go_wp2_with fail
  refine (rc_first c3 1 w4 b _ _ _ _ hB ⟨#[97]⟩ 6).mono ?_; rintro e w5 ⟨rfl, hb5⟩
  have f1 : fstV [(6, ⟨#[97]⟩), (6, ⟨#[98]⟩), (8, ⟨#[97]⟩)] ⟨#[97]⟩ 6 = 8 := by simp [fstV, fM, List.find?]
  have f2 : fstB [(6, ⟨#[97]⟩), (6, ⟨#[98]⟩), (8, ⟨#[97]⟩)] ⟨#[97]⟩ 6 = true := by simp [fstB, fM, List.find?]
  rw [f1, f2]
  clear f1 f2
  replace hB := hB.below hb5
  replace hM := hM.after_below hb5
  clear hb5
  go_wp2_with fail
  have HBk := below_alloc (Below.refl w5.heap.size w5) (.cells #[.string ⟨#[99]⟩] 9)
  have hB' := hB.kept (Mv.new (S := []) HBk 0) (by simp)
  have hK : KeysAt (paint c3 w5 0) 1 (w5.alloc (.cells #[.string ⟨#[99]⟩] 9)) (.slice (some ⟨w5.heap.size, 0, none⟩) 1 1) [⟨#[99]⟩] := (keys_new c3 [1] (by simp) w5 [⟨#[99]⟩] (by decide)).at (by simp)
  refine (rc_note _ 1 _ b [(6, ⟨#[97]⟩), (6, ⟨#[98]⟩), (8, ⟨#[97]⟩)] 3 5 8 9 _ [⟨#[99]⟩] hB' hK).mono ?_; rintro e w6 ⟨rfl, hB2, hC2⟩
  replace hM := (hM.trans (Mv.new HBk 0)).trans (hC2.mv' (by simp))
  generalize paint (paint c3 w5 0) (w5.alloc (.cells #[.string ⟨#[99]⟩] 9)) 1 = c4 at hB2 hM
  clear hB hB' hK hC2 HBk
  have hB : Rec c4 1 w6 b [(6, ⟨#[98]⟩), (8, ⟨#[97]⟩), (9, ⟨#[99]⟩)] 3 6 9 := by have e1 : nL 3 [(6, ⟨#[97]⟩), (6, ⟨#[98]⟩), (8, ⟨#[97]⟩)] 5 8 9 [⟨#[99]⟩] = [(6, ⟨#[98]⟩), (8, ⟨#[97]⟩), (9, ⟨#[99]⟩)] := rfl; have e2 : nS 3 [(6, ⟨#[97]⟩), (6, ⟨#[98]⟩), (8, ⟨#[97]⟩)] 5 8 9 [⟨#[99]⟩] = 6 := rfl; have e3 : nT 8 9 = 9 := rfl; rw [e1, e2, e3] at hB2; exact hB2
  clear hB2
  rw [show okB 8 9 = true from rfl]
  go_wp2_with fail

  refine (rc_since c4 1 w6 b _ _ _ _ hB).mono ?_; rintro e w' ⟨rfl, rfl⟩
  go_wp2_with fail
  refine (rc_last c4 1 w6 b _ _ _ _ hB).mono ?_; rintro e w' ⟨rfl, rfl⟩
  go_wp2_with fail
  refine (rc_list c4 1 w6 b _ _ _ _ hB).mono ?_; rintro e w7 ⟨p, c, rfl, _, hb7⟩
  go_wp2
  go_ret
  exact ⟨rfl, below_call (hM.toBelow hz) hb7⟩

end Go.Proofs.Ytgacbfbjikjanaa
