/- Bags: made, doubled, listed, cloned. -/
import Derived.Test.YtgacbfbjikjanaaBag2
import Derived.WalkKit
import Derived.WalkLawsBesides
import Derived.WalkSpells
import Derived.Below
import Derived.Deep.RegionHeld3
import Derived.Deep.QuietTactic
import Derived.BigQuiet
import Derived.Deep.DeepCutAuto
import Derived.Deep.DeepMust
import Derived.KernelRfl
import Derived.Lib.Hide
import Derived.Outline
import Derived.RegionTactic
import Derived.StillTailTactics
namespace Go.Proofs.Ytgacbfbjikjanaa
open Go.RowKit Go.Cl
set_option maxRecDepth 100000
set_option linter.unusedVariables false
set_option linter.unusedSimpArgs false

theorem max2_int (k k' : IntKind) (x y : Int) : Builtin.max2 (.int k x) (.int k' y) = pure (.int k (max x y)) := by
  have e : max x y = if x < y then y else x := by split <;> omega
  simp only [Builtin.max2, gt_iff_lt, e]
theorem min2_int (k k' : IntKind) (x y : Int) : Builtin.min2 (.int k x) (.int k' y) = pure (.int k (min x y)) := by
  have e : min x y = if y < x then y else x := by split <;> omega
  simp only [Builtin.min2, e]
theorem max_two (ats : Array TypeId) (ty : TypeId) (a b : Value) : Builtin.max_ ats ty #[a, b] = (Builtin.max2 a b >>= fun s => pure s) := by simp only [Builtin.max_, List.foldlM_cons, List.foldlM_nil]
theorem min_two (ats : Array TypeId) (ty : TypeId) (a b : Value) : Builtin.min_ ats ty #[a, b] = (Builtin.min2 a b >>= fun s => pure s) := by simp only [Builtin.min_, List.foldlM_cons, List.foldlM_nil]
attribute [local go_sem] max2_int min2_int max_two min_two
def capOf (most : Int) : Int := min (max most 0) 4096
theorem capOf_lo (m : Int) : 0 ≤ capOf m := by unfold capOf; omega
theorem capOf_hi (m : Int) : capOf m ≤ 4096 := by unfold capOf; omega


theorem bs_new (col : Nat → Nat) (i : Nat) (w : World) (most : Int) :
    Calls Try.prog 13 #[.int .i64 most] w fun e w' => ∃ b, e = .returned (.pointer (some ⟨b, 0, none⟩)) ∧ Bag 88 9 1 encS (paint col w i) i w' b [] (capOf most) 0 ∧ Ch col i w w' ∧ w.heap.size ≤ b := by
  go_enter Try.func13, Try.ntmps13
  go_wp2
  go_ret
  refine ⟨w.heap.size, rfl, ⟨⟨.slice none 0 0, ⟨hp_alloc_new w _, paint_new (Nat.le_refl _)⟩, Row.nil'⟩, capOf_lo _, capOf_hi _, by simpa using capOf_lo most⟩, Ch.refl.alloc _, Nat.le_refl _⟩

theorem bs_double_room (col : Nat → Nat) (i : Nat) (w : World) (b : Nat) (L : List ByteArray) (most lost : Int) (h : Bag 88 9 1 encS col i w b L most lost) (j : Nat) (hj : j < L.length) (hn : (L.length : Int) < most) :
    Calls Try.prog 41 #[.pointer (some ⟨b, 0, none⟩), .int .i64 j] w fun e w' => e = .returned (.bool true) ∧ Bag 88 9 1 encS (paint col w i) i w' b (L ++ [L[j]]) most lost ∧ Ch col i w w' := by
  have hat := bs_at_ok col i w b L most lost h j hj
  have hput := bs_put_room col i w b L most lost L[j] h hn
  clear hn
  go_enter Try.func41, Try.ntmps41
  go_wp2_with (first | (go_at_call 39; refine hat.mono ?_; rintro e w' ⟨rfl, rfl⟩) | (go_at_call 40; refine hput.mono ?_; rintro e w' ⟨rfl, hB, hC⟩))
  go_ret
  exact ⟨rfl, hB, hC⟩
theorem bs_double_full (col : Nat → Nat) (i : Nat) (w : World) (b : Nat) (L : List ByteArray) (most lost : Int) (h : Bag 88 9 1 encS col i w b L most lost) (j : Nat) (hj : j < L.length) (hn : most ≤ (L.length : Int)) :
    Calls Try.prog 41 #[.pointer (some ⟨b, 0, none⟩), .int .i64 j] w fun e w' => e = .returned (.bool false) ∧ Bag 88 9 1 encS (paint col w i) i w' b L most (wrap64 (lost + 1)) ∧ Ch col i w w' := by
  have hat := bs_at_ok col i w b L most lost h j hj
  have hput := bs_put_full col i w b L most lost L[j] h hn
  clear hn
  go_enter Try.func41, Try.ntmps41
  go_wp2_with (first | (go_at_call 39; refine hat.mono ?_; rintro e w' ⟨rfl, rfl⟩) | (go_at_call 40; refine hput.mono ?_; rintro e w' ⟨rfl, hB, hC⟩))
  go_ret
  exact ⟨rfl, hB, hC⟩
theorem bs_double_no (col : Nat → Nat) (i : Nat) (w : World) (b : Nat) (L : List ByteArray) (most lost : Int) (h : Bag 88 9 1 encS col i w b L most lost) (I : Int) (hI : I < 0 ∨ (L.length : Int) ≤ I) :
    Calls Try.prog 41 #[.pointer (some ⟨b, 0, none⟩), .int .i64 I] w fun e w' => e = .returned (.bool false) ∧ w = w' := by
  have hat := bs_at_no col i w b L most lost h I hI
  clear hI
  go_enter Try.func41, Try.ntmps41
  go_wp2_with (go_at_call 39; refine hat.mono ?_; rintro e w' ⟨rfl, rfl⟩)
  go_ret
  exact ⟨rfl, rfl⟩

/-- slices.Clone: another row with the same, all new. -/
theorem bs_sclone (col : Nat → Nat) (i k : Nat) (w : World) (v : Value) (n : Nat) (L : List ByteArray) (hL : L.length = n) (hr : Row col i w 9 1 v n (L.flatMap encS)) (hn : n ≤ 1000000000000) :
    Calls Try.prog 50 #[v] w fun e w' => ∃ p c, e = .returned (.slice p n c) ∧ Row (paint col w k) k w' 9 1 (.slice p n c) n (L.flatMap encS) ∧ Below w.heap.size w w' := by
  obtain ⟨i0, hi, hz0, hz1, hz2⟩ := info_parts Try.info9
  rcases hr.own.2 with ⟨rfl, rfl⟩ | ⟨g, c, cur, rfl, _, hg, hnc, hcm, hcs, htk⟩
  · obtain rfl : L = [] := List.eq_nil_of_length_eq_zero hL
    have hnil := fun (W : World) => Lib.run_eql_slice_nil (P := Try.prog) W 32 9 none 0 0 0 0 Try.underlying32
    go_enter Try.func50, Try.ntmps50
    go_wp2
    go_ret
    exact ⟨none, 0, rfl, Row.nil', Below.refl _ _⟩
  · have hs := encS_ok.src (w := w.alloc (.cells #[] 9)) L 0 (hp_alloc_old hg _) (by rw [hL]; exact htk)
    have hnew : Row (paint col w k) k (w.alloc (.cells #[] 9)) 9 1 (.slice (some ⟨w.heap.size, 0, none⟩) 0 0) 0 [] := ⟨World.ownsRow_made w #[] 0 (Nat.zero_le _) (by unfold maxLen; omega) (by simp), fun g hg => by simp [Value.ownBlock] at hg; subst hg; exact paint_new (Nat.le_refl _)⟩
    have hb := below_alloc (Below.refl w.heap.size w) (.cells #[] 9)
    simp only [Nat.zero_mul, List.drop_zero] at hs
    clear htk
    have hnil := fun (W : World) => Lib.run_eql_slice_nil (P := Try.prog) W 32 9 (some ⟨g, 0, none⟩) n c 0 0 Try.underlying32
    go_enter Try.func50, Try.ntmps50
    go_wp2_with (at_builtin; refine wpList_append_col rfl (.tmp 5) (.tmp 6) 32 rfl 9 i0 (.string ⟨#[]⟩) 1 16 Try.underlying32 hi hz0 hz1 hz2 rfl (by decide) _ 0 [] rfl hnew ⟨g, 0, none⟩ n c (L.flatMap encS) rfl (by rw [encS_ok.length, hL]) hs (encS_ok.ones _) ?c3 ?c4 ?k)
    case c3 => unfold maxLen; omega
    case c4 => omega
    case k =>
      intro p' c' w1 hr1 hC hgr
      rw [paint_paint hb.size] at hr1
      try simp only [Nat.zero_add, List.nil_append] at hr1
      try simp only [Nat.zero_add]
      go_wp2
      go_ret
      exact ⟨p', c', rfl, hr1, hb.grown hgr hb.size (fun k hk => by simp [Value.ownBlock] at hk; omega)⟩
theorem bs_list (col : Nat → Nat) (i : Nat) (w : World) (b : Nat) (L : List ByteArray) (most lost : Int) (k : Nat) (h : Bag 88 9 1 encS col i w b L most lost) :
    Calls Try.prog 19 #[.pointer (some ⟨b, 0, none⟩)] w fun e w' => ∃ p c, e = .returned (.slice p L.length c) ∧ Row (paint col w k) k w' 9 1 (.slice p L.length c) L.length (L.flatMap encS) ∧ Below w.heap.size w w' := by
  obtain ⟨⟨v, hb, hr⟩, h1, h2, h3⟩ := h
  have hcl := bs_sclone col i k w v L.length L rfl hr (by omega)
  obtain ⟨p, c, rfl⟩ := hr.form
  have cb := hp_cell hb.hp
  go_enter Try.func19, Try.ntmps19
  go_wp2_with (go_at_call 50; refine hcl.mono ?_; rintro e w' ⟨p', c', rfl, hr', hb'⟩)
  go_ret
  exact ⟨p', c', rfl, hr', hb'⟩


theorem br_new (col : Nat → Nat) (i : Nat) (w : World) (most : Int) :
    Calls Try.prog 14 #[.int .i64 most] w fun e w' => ∃ b, e = .returned (.pointer (some ⟨b, 0, none⟩)) ∧ Bag 34 9 1 encS (paint col w i) i w' b [] (capOf most) 0 ∧ Ch col i w w' ∧ w.heap.size ≤ b := by
  have fin : ∀ m, capOf most = m → Bag 34 9 1 encS (paint col w i) i (w.alloc (.cells #[.slice none 0 0, .int .i64 m, .int .i64 0] 34)) w.heap.size ([] : List ByteArray) (capOf most) 0 := fun m hm => by
    subst hm
    exact ⟨⟨.slice none 0 0, ⟨hp_alloc_new w _, paint_new (Nat.le_refl _)⟩, Row.nil'⟩, capOf_lo _, capOf_hi _, by simpa using capOf_lo most⟩
  by_cases h0 : most < 0
  · have h1 : ¬ (4096 : Int) < 0 := by omega
    go_enter Try.func14, Try.ntmps14
    go_wp2
    go_ret
    exact ⟨w.heap.size, rfl, fin _ (by unfold capOf; omega), Ch.refl.alloc _, Nat.le_refl _⟩
  · by_cases h1 : 4096 < most
    all_goals
      go_enter Try.func14, Try.ntmps14
      go_wp2
      go_ret
      exact ⟨w.heap.size, rfl, fin _ (by unfold capOf; omega), Ch.refl.alloc _, Nat.le_refl _⟩

end Go.Proofs.Ytgacbfbjikjanaa
