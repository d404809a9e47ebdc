/- Bags: what they are in memory; contracts of the methods. -/
import Derived.Test.YtgacbfbjikjanaaProg
import Derived.Test.YtgacbfbjikjanaaCol
import Derived.WalkKit
import Derived.WalkLawsBesides
import Derived.WalkSpells
import Derived.Below
import Derived.Deep.RegionHeld3
import Derived.Deep.QuietTactic
import Derived.BigQuiet
import Derived.Deep.DeepCutAuto
import Derived.Deep.DeepMust
import Derived.KernelRfl
import Derived.Lib.Hide
import Derived.Outline
import Derived.RegionTactic
import Derived.StillTailTactics
namespace Go.Proofs.Ytgacbfbjikjanaa
open Go.RowKit Go.Cl
set_option maxRecDepth 100000
set_option linter.unusedVariables false
set_option linter.unusedSimpArgs false


/-- A bag in memory: its list lies in a row of its own. -/
structure Bag {α : Type} (T e s : Nat) (enc : α → List Value) (col : Nat → Nat) (i : Nat) (w : World) (b : Nat) (L : List α) (most lost : Int) : Prop where
  ex : ∃ v, Blk col i w b #[v, .int .i64 most, .int .i64 lost] T ∧ Row col i w e s v L.length (L.flatMap enc)
  lo : 0 ≤ most
  hi : most ≤ 4096
  len : (L.length : Int) ≤ most
theorem Bag.kept {α : Type} {T e s : Nat} {enc : α → List Value} {col col' : Nat → Nat} {i : Nat} {w w' : World} {b : Nat} {L : List α} {most lost : Int} (h : Bag T e s enc col i w b L most lost)
    {S : List Nat} (hm : Mv S col w col' w') (hi : i ∉ S) : Bag T e s enc col' i w' b L most lost := by
  obtain ⟨⟨v, hb, hr⟩, h1, h2, h3⟩ := h
  exact ⟨⟨v, hb.kept hm hi, hr.kept hm hi⟩, h1, h2, h3⟩
theorem Bag.below {α : Type} {T e s : Nat} {enc : α → List Value} {col : Nat → Nat} {i : Nat} {w w' : World} {b : Nat} {L : List α} {most lost : Int} (h : Bag T e s enc col i w b L most lost)
    (hb' : Below w.heap.size w w') : Bag T e s enc col i w' b L most lost := h.kept (Mv.of_below (S := []) (col := col) hb') (by simp)
def encS (x : ByteArray) : List Value := [.string x]
theorem encS_ok : Enc ByteArray encS 1 := ⟨fun _ => rfl, fun _ u hu => by simp [encS] at hu; subst hu; rfl⟩
def encT (x : Int × ByteArray) : List Value := [.int .i64 x.1, .string x.2]
theorem encT_ok : Enc (Int × ByteArray) encT 2 := ⟨fun _ => rfl, fun _ u hu => by simp [encT] at hu; rcases hu with rfl | rfl <;> rfl⟩
theorem one_cell (w : World) (u : Value) (t : TypeId) : ∀ j x, [u][j]? = some x → (w.alloc (.cells #[u] t)).cell? ((⟨w.heap.size, 0, none⟩ : Addr).add j) = some x := by
  intro j x hj
  match j, hj with
  | 0, hj => simp at hj; subst hj; simp [Addr.add]
theorem Try.info9 : (Try.prog.info? 9).map (fun i => (i.zero, i.size, i.bytes)) = some (some (.string ⟨#[]⟩), 1, 16) := by kernel_rfl
theorem Try.info43 : (Try.prog.info? 43).map (fun i => (i.zero, i.size, i.bytes)) = some (some (.agg #[.int .i64 0, .string ⟨#[]⟩]), 2, 24) := by kernel_rfl


theorem bs_len (col : Nat → Nat) (i : Nat) (w : World) (b : Nat) (L : List ByteArray) (most lost : Int) (h : Bag 88 9 1 encS col i w b L most lost) :
    Calls Try.prog 16 #[.pointer (some ⟨b, 0, none⟩)] w fun e w' => e = .returned (.int .i64 L.length) ∧ w = w' := by
  obtain ⟨i0, hi, hz0, hz1, hz2⟩ := info_parts Try.info9
  obtain ⟨⟨v, hb, hr⟩, h1, h2, h3⟩ := h
  have hne := hr.ne hb.hp (by decide)
  obtain ⟨p, c, rfl⟩ := hr.form
  have cb := hp_cell hb.hp
  have fb := hp_free hb.hp
  have bl := hp_lt hb.hp
  go_enter Try.func16, Try.ntmps16
  go_wp2
  go_ret
  exact ⟨rfl, rfl⟩

theorem bs_lost (col : Nat → Nat) (i : Nat) (w : World) (b : Nat) (L : List ByteArray) (most lost : Int) (h : Bag 88 9 1 encS col i w b L most lost) :
    Calls Try.prog 17 #[.pointer (some ⟨b, 0, none⟩)] w fun e w' => e = .returned (.int .i64 lost) ∧ w = w' := by
  obtain ⟨i0, hi, hz0, hz1, hz2⟩ := info_parts Try.info9
  obtain ⟨⟨v, hb, hr⟩, h1, h2, h3⟩ := h
  have hne := hr.ne hb.hp (by decide)
  obtain ⟨p, c, rfl⟩ := hr.form
  have cb := hp_cell hb.hp
  have fb := hp_free hb.hp
  have bl := hp_lt hb.hp
  go_enter Try.func17, Try.ntmps17
  go_wp2
  go_ret
  exact ⟨rfl, rfl⟩

theorem bs_put_room (col : Nat → Nat) (i : Nat) (w : World) (b : Nat) (L : List ByteArray) (most lost : Int) (m : ByteArray) (h : Bag 88 9 1 encS col i w b L most lost) (hn : (L.length : Int) < most) :
    Calls Try.prog 40 #[.pointer (some ⟨b, 0, none⟩), .string m] w fun e w' => e = .returned (.bool true) ∧ Bag 88 9 1 encS (paint col w i) i w' b (L ++ [m]) most lost ∧ Ch col i w w' := by
  obtain ⟨i0, hi, hz0, hz1, hz2⟩ := info_parts Try.info9
  obtain ⟨⟨v, hb, hr⟩, h1, h2, h3⟩ := h
  have hne := hr.ne hb.hp (by decide)
  obtain ⟨p, c, rfl⟩ := hr.form
  have cb := hp_cell hb.hp
  have fb := hp_free hb.hp
  have bl := hp_lt hb.hp
  go_enter Try.func40, Try.ntmps40
  go_wp2
  go_quiet (fail)
  have HB : Below w.heap.size w ((w.drewN nq).alloc (.cells #[.string m] 9)) := below_alloc (below_drewN (Below.refl _ _) nq) _
  have hr' := hr.below HB
  have hb' := hb.below HB
  go_wp2_with (at_builtin; refine wpList_append_col rfl (.tmp 28) (.tmp 30) 32 rfl 9 i0 (.string ⟨#[]⟩) 1 16 Try.underlying32 hi hz0 hz1 hz2 rfl (by decide) _ L.length (L.flatMap encS) rfl hr' ⟨w.heap.size, 0, none⟩ 1 1 (encS (m)) rfl rfl (one_cell (w.drewN nq) _ _) ?c2 ?c3 ?c4 ?k)
  case c2 => exact encS_ok.one _
  case c3 => unfold maxLen; omega
  case c4 => omega
  case k =>
    intro p' c' w1 hr1 hC hg
    have hb1 := hp_grown hb'.hp hg (fun e => hne e.symm)
    have cb1 := hp_cell hb1
    have fb1 := hp_free hb1
    have hC' := (Ch.of_below (col := col) (i := i) HB).trans hC
    rw [paint_paint HB.size] at hr1
    clear cb fb
    go_wp2
    go_ret
    refine ⟨rfl, ⟨⟨_, ⟨hp_set hb1 _, paint_of hb.col⟩, ?_⟩, h1, h2, by simp; omega⟩, hC'.setCell (paint_of hb.col) _⟩
    have e : (L ++ [m]).flatMap encS = L.flatMap encS ++ encS (m) := by simp
    rw [e, List.length_append]
    exact hr1.set (hr1.ne hb1 (by decide)) _
theorem bs_put_full (col : Nat → Nat) (i : Nat) (w : World) (b : Nat) (L : List ByteArray) (most lost : Int) (m : ByteArray) (h : Bag 88 9 1 encS col i w b L most lost) (hn : most ≤ (L.length : Int)) :
    Calls Try.prog 40 #[.pointer (some ⟨b, 0, none⟩), .string m] w fun e w' => e = .returned (.bool false) ∧ Bag 88 9 1 encS (paint col w i) i w' b L most (wrap64 (lost + 1)) ∧ Ch col i w w' := by
  obtain ⟨i0, hi, hz0, hz1, hz2⟩ := info_parts Try.info9
  obtain ⟨⟨v, hb, hr⟩, h1, h2, h3⟩ := h
  have hne := hr.ne hb.hp (by decide)
  obtain ⟨p, c, rfl⟩ := hr.form
  have cb := hp_cell hb.hp
  have fb := hp_free hb.hp
  have bl := hp_lt hb.hp
  go_enter Try.func40, Try.ntmps40
  go_wp2
  go_quiet (fail)
  go_wp2
  go_ret
  have HB : Below w.heap.size w (w.drewN nq) := below_drewN (Below.refl _ _) nq
  have hr' := hr.below HB
  have hb' := hb.below HB
  exact ⟨rfl, ⟨⟨_, ⟨hp_set hb'.hp _, paint_of hb.col⟩, hr'.set hne _⟩, h1, h2, h3⟩, (Ch.of_below HB).setCell (paint_of hb.col) _⟩


theorem br_put_room (col : Nat → Nat) (i : Nat) (w : World) (b : Nat) (L : List ByteArray) (most lost : Int) (m : ByteArray) (h : Bag 34 9 1 encS col i w b L most lost) (hn : (L.length : Int) < most) :
    Calls Try.prog 46 #[.pointer (some ⟨b, 0, none⟩), .string m] w fun e w' => e = .returned (.bool true) ∧ Bag 34 9 1 encS (paint col w i) i w' b (L ++ [m]) most lost ∧ Ch col i w w' := by
  obtain ⟨i0, hi, hz0, hz1, hz2⟩ := info_parts Try.info9
  obtain ⟨⟨v, hb, hr⟩, h1, h2, h3⟩ := h
  have hne := hr.ne hb.hp (by decide)
  obtain ⟨p, c, rfl⟩ := hr.form
  have cb := hp_cell hb.hp
  have fb := hp_free hb.hp
  have bl := hp_lt hb.hp
  go_enter Try.func46, Try.ntmps46
  go_wp2
  go_quiet (fail)
  have HB : Below w.heap.size w ((w.drewN nq).alloc (.cells #[.string m] 9)) := below_alloc (below_drewN (Below.refl _ _) nq) _
  have hr' := hr.below HB
  have hb' := hb.below HB
  go_wp2_with (at_builtin; refine wpList_append_col rfl (.tmp 19) (.tmp 21) 32 rfl 9 i0 (.string ⟨#[]⟩) 1 16 Try.underlying32 hi hz0 hz1 hz2 rfl (by decide) _ L.length (L.flatMap encS) rfl hr' ⟨w.heap.size, 0, none⟩ 1 1 (encS (m)) rfl rfl (one_cell (w.drewN nq) _ _) ?c2 ?c3 ?c4 ?k)
  case c2 => exact encS_ok.one _
  case c3 => unfold maxLen; omega
  case c4 => omega
  case k =>
    intro p' c' w1 hr1 hC hg
    have hb1 := hp_grown hb'.hp hg (fun e => hne e.symm)
    have cb1 := hp_cell hb1
    have fb1 := hp_free hb1
    have hC' := (Ch.of_below (col := col) (i := i) HB).trans hC
    rw [paint_paint HB.size] at hr1
    clear cb fb
    go_wp2
    go_ret
    refine ⟨rfl, ⟨⟨_, ⟨hp_set hb1 _, paint_of hb.col⟩, ?_⟩, h1, h2, by simp; omega⟩, hC'.setCell (paint_of hb.col) _⟩
    have e : (L ++ [m]).flatMap encS = L.flatMap encS ++ encS (m) := by simp
    rw [e, List.length_append]
    exact hr1.set (hr1.ne hb1 (by decide)) _
theorem br_put_full (col : Nat → Nat) (i : Nat) (w : World) (b : Nat) (L : List ByteArray) (most lost : Int) (m : ByteArray) (h : Bag 34 9 1 encS col i w b L most lost) (hn : most ≤ (L.length : Int)) :
    Calls Try.prog 46 #[.pointer (some ⟨b, 0, none⟩), .string m] w fun e w' => e = .returned (.bool false) ∧ Bag 34 9 1 encS (paint col w i) i w' b L most (wrap64 (lost + 1)) ∧ Ch col i w w' := by
  obtain ⟨i0, hi, hz0, hz1, hz2⟩ := info_parts Try.info9
  obtain ⟨⟨v, hb, hr⟩, h1, h2, h3⟩ := h
  have hne := hr.ne hb.hp (by decide)
  obtain ⟨p, c, rfl⟩ := hr.form
  have cb := hp_cell hb.hp
  have fb := hp_free hb.hp
  have bl := hp_lt hb.hp
  go_enter Try.func46, Try.ntmps46
  go_wp2
  go_quiet (fail)
  go_wp2
  go_ret
  have HB : Below w.heap.size w (w.drewN nq) := below_drewN (Below.refl _ _) nq
  have hr' := hr.below HB
  have hb' := hb.below HB
  exact ⟨rfl, ⟨⟨_, ⟨hp_set hb'.hp _, paint_of hb.col⟩, hr'.set hne _⟩, h1, h2, h3⟩, (Ch.of_below HB).setCell (paint_of hb.col) _⟩

end Go.Proofs.Ytgacbfbjikjanaa
