/- A reader of bytes: texts. -/
import Derived.Test.YtiklpifaaogcpaaWg
import Derived.WalkKit
import Derived.WalkLawsBesides
import Derived.WalkSpells
import Derived.Below
import Derived.Deep.RegionHeld3
import Derived.Deep.QuietTactic
import Derived.BigQuiet
import Derived.Deep.DeepCutAuto
import Derived.Deep.DeepMust
import Derived.KernelRfl
import Derived.Lib.Hide
import Derived.Outline
import Derived.RegionTactic
import Derived.StillTailTactics
import Derived.Laws.IdiomStrings
namespace Go.Proofs.Ytiklpifaaogcpaa
open Go.RowKit Go.Cl
set_option maxRecDepth 100000
set_option linter.unusedVariables false
set_option linter.unusedSimpArgs false

theorem max2_int (k k' : IntKind) (x y : Int) : Builtin.max2 (.int k x) (.int k' y) = pure (.int k (max x y)) := by
  have e : max x y = if x < y then y else x := by split <;> omega
  simp only [Builtin.max2, gt_iff_lt, e]
theorem min2_int (k k' : IntKind) (x y : Int) : Builtin.min2 (.int k x) (.int k' y) = pure (.int k (min x y)) := by
  have e : min x y = if y < x then y else x := by split <;> omega
  simp only [Builtin.min2, e]
theorem max_two (ats : Array TypeId) (ty : TypeId) (a b : Value) : Builtin.max_ ats ty #[a, b] = (Builtin.max2 a b >>= fun s => pure s) := by simp only [Builtin.max_, List.foldlM_cons, List.foldlM_nil]
theorem min_two (ats : Array TypeId) (ty : TypeId) (a b : Value) : Builtin.min_ ats ty #[a, b] = (Builtin.min2 a b >>= fun s => pure s) := by simp only [Builtin.min_, List.foldlM_cons, List.foldlM_nil]
attribute [local go_sem] max2_int min2_int max_two min_two
open Go.Wr
theorem ext_take (s : ByteArray) (a n : Nat) : (⟨((s.data.toList.drop a).take n).toArray⟩ : ByteArray) = s.extract a (a + n) := by
  apply ByteArray.ext
  apply Array.toList_inj.1
  simp [ByteArray.data_extract, Array.toList_extract, List.extract_eq_take_drop]
set_option maxHeartbeats 1000000 in
theorem rd_text (col : Nat → Nat) (i : Nat) (w : World) (b : Nat) (s : ByteArray) (t : St) (h : Rds 126 col i w b s t) (most : Int) :
    Calls Try.prog 105 #[.pointer (some ⟨b, 0, none⟩), .int .i64 most] w fun e w' => e = .returned (.string ⟨(rText s.data.toList most t).1.toArray⟩) ∧ Rds 126 (paint col w i) i w' b s (rText s.data.toList most t).2 ∧ Ch col i w w' := by
  have HE := Lib.hid (rd_err col i w b s t h)
  have hN := rd_number col i w b s t h
  have hok := ok_text (most := most) h.ok
  have hl : s.data.toList.length = s.size := by simp
  unfold rText at hok ⊢
  rw [hl] at hok ⊢
  have HB := Lib.hid h
  have cb := hp_cell h.blk.hp
  have hlt := h.at_lt
  have hlen := h.len
  unfold maxLen at hlen
  obtain ⟨a, er⟩ := t
  simp only at *
  by_cases h0 : er = 0
  · subst h0
    rw [if_pos rfl] at hok ⊢
    clear h
    cases hn : number s.data.toList a with
    | inl e =>
      have he := number_err hn
      rw [hn] at hN
      simp only [numRes] at hN ⊢
      clear hok
      have HN := Lib.hid hN; clear hN hn
      have b1 : ((e : Int) != 0) = true := by simp; omega
      have HE2 := Lib.hid he; clear he hl
      go_enter Try.func105, Try.ntmps105
      go_wp2_with (first | (go_at_call 68; refine HE.out.mono ?_; rintro e w' ⟨rfl, rfl⟩) | (go_at_call 107; refine HN.out.mono ?_; rintro e w1 ⟨rfl, hb1⟩))
      refine (rd_fail (paint col w i) i _ b s ⟨a, 0⟩ (HB.out.painted hb1) e HE2.out e rfl).mono ?_
      rintro e' w2 ⟨rfl, hR, hC⟩
      go_wp2
      go_ret
      rw [paint_paint hb1.size] at hR
      exact ⟨rfl, hR, (Ch.of_below hb1).trans hC⟩
    | inr p =>
      obtain ⟨n, a'⟩ := p
      rw [hn] at hN hok
      simp only [numRes] at hN hok ⊢
      obtain ⟨i1, i2, i3, i4, i5, i6⟩ := number_in hn (by rw [hl]; exact hlt)
      rw [hl] at i2
      have HN := Lib.hid hN; clear hN hn i6 hl
      have I4 := Lib.hid i4; have I5 := Lib.hid i5; clear i4 i5
      by_cases c1 : n < 0 ∨ max most 0 < n
      · rw [if_pos c1]
        clear hok
        by_cases c2 : n < 0
        all_goals
          go_enter Try.func105, Try.ntmps105
          go_wp2_with (first | (go_at_call 68; refine HE.out.mono ?_; rintro e w' ⟨rfl, rfl⟩) | (go_at_call 107; refine HN.out.mono ?_; rintro e w1 ⟨rfl, hb1⟩))
          first
          | (refine (rd_fail (paint col w i) i _ b s ⟨a, 0⟩ (HB.out.painted hb1) 11 (.inr rfl) 11 rfl).mono ?_
             rintro e' w2 ⟨rfl, hR, hC⟩
             go_wp2
             go_ret
             rw [paint_paint hb1.size] at hR
             exact ⟨rfl, hR, (Ch.of_below hb1).trans hC⟩)
      · rw [if_neg c1] at hok ⊢
        have n0 : 0 ≤ n := by omega
        have n1 : n ≤ max most 0 := by omega
        have I5' := I5.out
        obtain ⟨m, rfl⟩ : ∃ m : Nat, n = m := ⟨n.toNat, by omega⟩
        simp only [Int.toNat_natCast] at hok ⊢
        clear c1
        by_cases c3 : (s.size : Int) - a' < m
        · rw [if_pos c3]
          clear hok
          go_enter Try.func105, Try.ntmps105
          go_wp2_with (first | (go_at_call 68; refine HE.out.mono ?_; rintro e w' ⟨rfl, rfl⟩) | (go_at_call 107; refine HN.out.mono ?_; rintro e w1 ⟨rfl, hb1⟩; have cb1 := hp_cell (HB.out.below hb1).blk.hp))
          refine (rd_fail (paint col w i) i _ b s ⟨a, 0⟩ (HB.out.painted hb1) 10 (.inl rfl) 10 rfl).mono ?_
          rintro e' w2 ⟨rfl, hR, hC⟩
          go_wp2
          go_ret
          rw [paint_paint hb1.size] at hR
          exact ⟨rfl, hR, (Ch.of_below hb1).trans hC⟩
        · rw [if_neg c3] at hok ⊢
          rw [ext_take]
          have s1 : IntKind.i64.wrap ((a' : Int) + (m : Int)) = (a' : Int) + (m : Int) := IntWalk.i64_in _ (by omega)
          have s2 : (0 : Int) ≤ (a' : Int) + (m : Int) := by omega
          have s3 : ((a' : Int) + (m : Int)).toNat = a' + m := by omega
          have s4 : a' + m ≤ s.size := by omega
          have s5 : (a' : Int) + (m : Int) ≤ (s.size : Int) := by omega
          have s6 : (a' : Int) ≤ (a' : Int) + (m : Int) := by omega
          go_enter Try.func105, Try.ntmps105
          go_wp2_with (first | (go_at_call 68; refine HE.out.mono ?_; rintro e w' ⟨rfl, rfl⟩) | (go_at_call 107; refine HN.out.mono ?_; rintro e w1 ⟨rfl, hb1⟩; have cb1 := hp_cell (HB.out.below hb1).blk.hp; have fb1 := hp_free (HB.out.below hb1).blk.hp))
          refine Ph.at_world ?_; intro Z hZ
          have hZ1 : hp Z b = some (.cells #[.string s, .int .i64 ((a' : Int) + (m : Int)), .int .i64 0] 126 (0, 0)) := by rw [hZ]; exact hp_set (HB.out.below hb1).blk.hp _
          have hZ2 : Ch col i w Z := by rw [hZ]; exact (Ch.of_below hb1).setCell (paint_of HB.out.blk.col) _
          clear hZ cb cb1 fb1
          refine Ph.region_at (by kernel_rfl) ?_
          refine Ph.at_quiet 13 (by kernel_rfl) ?_
          simp only [List.take_succ_cons, List.take_zero, List.drop_succ_cons, List.drop_zero]
          repeat ((first | (apply Ph.wpPh_g; (focus (intro w1 hS0; have cbq := hp_cell (hp_below (below_call (below_drew (Below.refl _ _)) hS0) hZ1); go_simp; first | exact rfl | exact ⟨rfl, Below.refl _ _⟩)))); simp only [Act.put, List.setIfInBounds_toArray, List.set_cons_zero, List.set_cons_succ])
          refine Ph.wpPh_nil ?_; intro w2 hS2
          refine Ph.at_end (by simp) ?_
          go_wp2
          go_ret
          rw [show ((a' : Int) + (m : Int)) = ((a' + m : Nat) : Int) by omega] at hZ1
          exact ⟨rfl, ⟨⟨hp_below (below_call (below_drew (Below.refl _ _)) hS2) hZ1, paint_of HB.out.blk.col⟩, hok, HB.out.len⟩, hZ2.below (below_call (below_drew (Below.refl _ _)) hS2)⟩
  · rw [if_neg h0]
    have b1 : ((er : Int) != 0) = true := by simp; omega
    clear hl
    go_enter Try.func105, Try.ntmps105
    go_wp2_with (go_at_call 68; refine HE.out.mono ?_; rintro e w' ⟨rfl, rfl⟩)
    go_ret
    exact ⟨rfl, h.painted (Below.refl _ _), Ch.refl⟩
end Go.Proofs.Ytiklpifaaogcpaa
