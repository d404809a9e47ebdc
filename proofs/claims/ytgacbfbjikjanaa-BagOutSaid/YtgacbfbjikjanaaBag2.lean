/- Bags: more contracts. -/
import Derived.Test.YtgacbfbjikjanaaBag
import Derived.Test.YtgacbfbjikjanaaPh
import Derived.WalkKit
import Derived.WalkLawsBesides
import Derived.WalkSpells
import Derived.Below
import Derived.Deep.RegionHeld3
import Derived.Deep.QuietTactic
import Derived.BigQuiet
import Derived.Deep.DeepCutAuto
import Derived.Deep.DeepMust
import Derived.KernelRfl
import Derived.Lib.Hide
import Derived.Outline
import Derived.RegionTactic
import Derived.StillTailTactics
namespace Go.Proofs.Ytgacbfbjikjanaa
open Go.RowKit Go.Cl
set_option maxRecDepth 100000
set_option linter.unusedVariables false
set_option linter.unusedSimpArgs false


theorem bs_at_ok (col : Nat → Nat) (i : Nat) (w : World) (b : Nat) (L : List ByteArray) (most lost : Int) (h : Bag 88 9 1 encS col i w b L most lost) (j : Nat) (hj : j < L.length) :
    Calls Try.prog 39 #[.pointer (some ⟨b, 0, none⟩), .int .i64 j] w fun e w' => e = .returned (.tuple #[.string L[j], .bool true]) ∧ w = w' := by
  have hlen := bs_len col i w b L most lost h
  obtain ⟨⟨v, hb, hr⟩, h1, h2, h3⟩ := h
  obtain ⟨g, c, cur, rfl, hg, hnc, hcm, hcs, htk, hgc⟩ := hr.pos (by omega)
  have cb := hp_cell hb.hp
  have hcell : w.cell? ⟨g, j, none⟩ = some (.string L[j]) := hr.cell (g := g) rfl (by have := encS_ok.get L j 0 hj (by omega); simpa [encS] using this)
  have hj0 : (0 : Int) ≤ (j : Int) := by omega
  go_enter Try.func39, Try.ntmps39
  go_wp2_with (go_at_call 16; refine hlen.mono ?_; rintro e w' ⟨rfl, rfl⟩)
  go_ret2
  exact ⟨rfl, rfl⟩
theorem bs_at_no (col : Nat → Nat) (i : Nat) (w : World) (b : Nat) (L : List ByteArray) (most lost : Int) (h : Bag 88 9 1 encS col i w b L most lost) (I : Int) (hI : I < 0 ∨ (L.length : Int) ≤ I) :
    Calls Try.prog 39 #[.pointer (some ⟨b, 0, none⟩), .int .i64 I] w fun e w' => e = .returned (.tuple #[(.string ⟨#[]⟩), .bool false]) ∧ w = w' := by
  have hlen := bs_len col i w b L most lost h
  by_cases hi0 : I < 0
  · go_enter Try.func39, Try.ntmps39
    go_wp2
    go_ret2
    exact ⟨rfl, rfl⟩
  · have hi1 : (L.length : Int) ≤ I := by omega
    have hi2 : 0 ≤ I := by omega
    clear hI hi0
    go_enter Try.func39, Try.ntmps39
    go_wp2_with (go_at_call 16; refine hlen.mono ?_; rintro e w' ⟨rfl, rfl⟩)
    go_ret2
    exact ⟨rfl, rfl⟩

theorem bs_take_ok (col : Nat → Nat) (i : Nat) (w : World) (b : Nat) (L : List ByteArray) (most lost : Int) (h : Bag 88 9 1 encS col i w b L most lost) (j : Nat) (hj : j < L.length) :
    Calls Try.prog 38 #[.pointer (some ⟨b, 0, none⟩), .int .i64 j] w fun e w' => e = .returned (.tuple #[.string L[j], .bool true]) ∧ Bag 88 9 1 encS (paint col w i) i w' b (L.eraseIdx j) most lost ∧ Ch col i w w' := by
  have hat := bs_at_ok col i w b L most lost h j hj
  obtain ⟨i0, hi, hz0, hz1, hz2⟩ := info_parts Try.info9
  obtain ⟨⟨v, hb, hr⟩, h1, h2, h3⟩ := h
  have hne := hr.ne hb.hp (by decide)
  obtain ⟨g, c, cur, rfl, hg, hnc, hcm, hcs, htk, hgc⟩ := hr.pos (by omega)
  have hgb : g ≠ b := fun e => hne (by simp [Value.ownBlock, e])
  have cb := hp_cell hb.hp
  have fb := hp_free hb.hp
  have hj0 : (0 : Int) ≤ (j : Int) := by omega
  unfold maxLen at hcm
  have hcl : cur.toList.length = c * 1 := by simpa using hcs
  have p1 : j ≤ L.length := by omega
  have p2 : j + 1 ≤ L.length := by omega
  have p3 : ¬ (c = j) := by omega
  have s3 : (0 : Int) ≤ (j : Int) + 1 := by omega
  have s4 : (j : Int) + 1 ≤ (L.length : Int) := by omega
  have s1 : IntKind.i64.wrap ((j : Int) + 1) = (j : Int) + 1 := IntWalk.i64_in _ (by omega)
  have s2 : ((j : Int) + 1).toNat = j + 1 := by omega
  go_enter Try.func38, Try.ntmps38
  go_wp2_with (go_at_call 39; refine hat.mono ?_; rintro e w' ⟨rfl, rfl⟩)
  refine Ph.wp_region_gr 13 13 [] (by kernel_rfl) (by kernel_rfl) (fun _ d _ _ _ h => by cases d <;> exact h) ?_
  simp only [List.take_succ_cons, List.take_zero, List.drop_succ_cons, List.drop_zero]
  repeat ((first | (apply Ph.wpG_op rfl; (focus (intro w1 hS0; have d := hp_cell (hp_below hS0 hb.hp); go_simp; first | exact rfl | exact ⟨rfl, Below.refl _ _⟩)))); simp only [List.tail_cons, List.tail_nil, Act.put, List.setIfInBounds_toArray, List.set_cons_zero, List.set_cons_succ])
  refine Ph.wpG_nil ?_
  refine Ph.wpAl_nil ?_; intro w2 hS _ _
  generalize hsp : (if c = j + 1 then some (⟨g, 0, none⟩ : Addr) else some ⟨g, j + 1, none⟩) = sp
  have HSP := Lib.hid hsp; clear hsp
  have hg2 := hp_below hS hg
  have hb2 := hp_below hS hb.hp
  clear s1 s2
  refine wpList_copy_col rfl (.tmp 20) (.tmp 27) 32 32 rfl 9 i0 1 Try.underlying32 hi hz1 _ _ _ _ _ _ rfl rfl g (j * 1) cur 9 hg2 (L.length - (j + 1)) (by show _ = min _ _; omega) ((L.drop (j + 1)).flatMap encS) (by rw [encS_ok.length, List.length_drop]) ?hpos ?hfit (encS_ok.ones _) ?k
  case hpos => exact fun h => ⟨by simp, ⟨g, j + 1, none⟩, by rw [← HSP.out]; exact if_neg (by omega), by simpa using encS_ok.src L (j + 1) hg2 htk⟩
  case hfit => rw [encS_ok.length, List.length_drop, hcs, ← Nat.add_mul]; exact Nat.mul_le_mul_right _ (by omega)
  case k =>
    intro w3 hg3 hw3
    have hb3 := hp_grown hb2 hw3 (by simp; omega)
    have hl3 : (lay cur.toList (j * 1) ((L.drop (j + 1)).flatMap encS)).length = c * 1 := by
      rw [length_lay, hcl]
      rw [encS_ok.length, List.length_drop, hcl, ← Nat.add_mul]; exact Nat.mul_le_mul_right _ (by omega)
    have ht3 := fun zs => encS_ok.taken L j hj cur.toList zs htk (by rw [hcl]; exact Nat.mul_le_mul_right _ hnc)
    clear cb fb
    have HT := Lib.hid ht3; clear ht3
    generalize hlay : lay cur.toList (j * 1) ((L.drop (j + 1)).flatMap encS) = cur3 at hl3 hg3 HT
    clear hlay
    have HL3 := Lib.hid hl3; clear hl3
    have q0 : (0 : Int) ≤ (L.length : Int) - 1 := by omega
    have q1 : L.length - 1 ≤ L.length := by omega
    have q2 : ¬ (c = L.length - 1) := by omega
    have q3 : IntKind.i64.wrap ((L.length : Int) - 1) = (L.length : Int) - 1 := IntWalk.i64_in _ (by omega)
    have q4 : ((L.length : Int) - 1).toNat = L.length - 1 := by omega
    have q5 : (L.length : Int) - 1 ≤ (L.length : Int) := by omega
    have q6 : L.length - 1 ≤ c := by omega
    have q7 : (1 : Int) ≤ (L.length : Int) := by omega
    have q8 : 1 ≤ L.length := by omega
    have q9 : (L.length : Int) - 1 ≤ (c : Int) := by omega
    go_wp2
    refine Ph.wp_region_gr 11 11 [] (by kernel_rfl) (by kernel_rfl) (fun _ d _ _ _ h => by cases d <;> exact h) ?_
    simp only [List.take_succ_cons, List.take_zero, List.drop_succ_cons, List.drop_zero]
    repeat ((first | (apply Ph.wpG_op rfl; (focus (intro w1 hS0; have d := hp_cell (hp_below hS0 hb3); go_simp; first | exact rfl | exact ⟨rfl, Below.refl _ _⟩)))); simp only [List.tail_cons, List.tail_nil, Act.put, List.setIfInBounds_toArray, List.set_cons_zero, List.set_cons_succ])
    refine Ph.wpG_nil ?_
    refine Ph.wpAl_nil ?_; intro w4 hS4 _ _

    have hg4 := hp_below hS4 hg3
    have hb4 := hp_below hS4 hb3
    refine wpList_clear_col rfl (.tmp 39) 32 rfl 9 (.string ⟨#[]⟩) Try.underlying32 Try.zeroValue9 _ (L.length - (L.length - 1)) (c - (L.length - 1)) g ((L.length - 1) * 1) (by simp [Act.eval]) rfl (by omega) cur3.toArray 9 hg4 ?hfit2 (zero_ones (by intro u hu; simp [Value.cells] at hu; subst hu; rfl) _) ?k2
    case hfit2 => 
      rw [zero_len, show cur3.toArray.size = c * 1 from by rw [← HL3.out]; simp]
      exact Nat.le_trans (Nat.le_of_eq (Nat.add_mul _ _ _).symm) (Nat.mul_le_mul_right _ (by omega))
    case k2 =>
      intro w5 hg5 hw5
      have hb5 := hp_grown hb4 hw5 (by simp; omega)
      have ht5 := HT.out (Builtin.zeroCells ((.string ⟨#[]⟩) : Value).cells (L.length - (L.length - 1))).toList
      have hl5 : (lay cur3 ((L.length - 1) * 1) (Builtin.zeroCells ((.string ⟨#[]⟩) : Value).cells (L.length - (L.length - 1))).toList).length = c * 1 := by
        rw [length_lay, HL3.out]
        rw [zero_len, HL3.out]
        exact Nat.le_trans (Nat.le_of_eq (Nat.add_mul _ _ _).symm) (Nat.mul_le_mul_right _ (by omega))
      generalize hlay : lay cur3 ((L.length - 1) * 1) (Builtin.zeroCells ((.string ⟨#[]⟩) : Value).cells (L.length - (L.length - 1))).toList = cur5 at ht5 hl5 hg5
      have HT5 := Lib.hid ht5; clear ht5
      have HL5 := Lib.hid hl5; clear hl5
      clear hlay
      go_wp2
      refine Ph.wp_region_gr 14 14 [] (by kernel_rfl) (by kernel_rfl) (fun _ d _ _ _ h => by cases d <;> exact h) ?_
      simp only [List.take_succ_cons, List.take_zero, List.drop_succ_cons, List.drop_zero]
      repeat ((first | (apply Ph.wpG_op rfl; (focus (intro w1 hS0; have d := hp_cell (hp_below hS0 hb5); go_simp; first | exact rfl | exact ⟨rfl, Below.refl _ _⟩)))); simp only [List.tail_cons, List.tail_nil, Act.put, List.setIfInBounds_toArray, List.set_cons_zero, List.set_cons_succ])
      refine Ph.wpG_nil ?_
      refine Ph.wpAl_nil ?_; intro w6 hS6 _ _

      have hg6 := hp_below hS6 hg5
      have hb6 := hp_below hS6 hb5
      have cb6 := hp_cell hb6
      have fb6 := hp_free hb6
      clear q3 q4
      go_wp2
      go_ret2
      have hC : Ch col i w w6 := ((((Ch.of_below hS).grown hw3 (fun k hk => by simp at hk; subst hk; exact paint_of hgc)).below hS4).grown hw5 (fun k hk => by simp at hk; subst hk; exact paint_of hgc)).below hS6
      refine ⟨rfl, ⟨⟨_, ⟨hp_set hb6 _, paint_of hb.col⟩, ?_⟩, h1, h2, by rw [List.length_eraseIdx_of_lt hj]; omega⟩, hC.setCell (paint_of hb.col) _⟩
      rw [List.length_eraseIdx_of_lt hj]
      exact Row.mk' (hp_set_ne hg6 hgb _) (by omega) (by unfold maxLen; omega) (by rw [List.size_toArray]; exact HL5.out) HT5.out (by rw [encS_ok.length, List.length_eraseIdx_of_lt hj]) (paint_of hgc)

theorem bs_take_no (col : Nat → Nat) (i : Nat) (w : World) (b : Nat) (L : List ByteArray) (most lost : Int) (h : Bag 88 9 1 encS col i w b L most lost) (I : Int) (hI : I < 0 ∨ (L.length : Int) ≤ I) :
    Calls Try.prog 38 #[.pointer (some ⟨b, 0, none⟩), .int .i64 I] w fun e w' => e = .returned (.tuple #[(.string ⟨#[]⟩), .bool false]) ∧ w = w' := by
  have hat := bs_at_no col i w b L most lost h I hI
  clear hI
  go_enter Try.func38, Try.ntmps38
  go_wp2_with (go_at_call 39; refine hat.mono ?_; rintro e w' ⟨rfl, rfl⟩)
  go_ret2
  exact ⟨rfl, rfl⟩

end Go.Proofs.Ytgacbfbjikjanaa
