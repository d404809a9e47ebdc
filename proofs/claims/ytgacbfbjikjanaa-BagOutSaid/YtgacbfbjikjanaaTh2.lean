/- A bag of things: Put. -/
import Derived.Test.YtgacbfbjikjanaaTh
import Derived.WalkKit
import Derived.WalkLawsBesides
import Derived.WalkSpells
import Derived.Below
import Derived.Deep.RegionHeld3
import Derived.Deep.QuietTactic
import Derived.BigQuiet
import Derived.Deep.DeepCutAuto
import Derived.Deep.DeepMust
import Derived.KernelRfl
import Derived.Lib.Hide
import Derived.Outline
import Derived.RegionTactic
import Derived.StillTailTactics
namespace Go.Proofs.Ytgacbfbjikjanaa
open Go.RowKit Go.Cl
set_option maxRecDepth 100000
set_option linter.unusedVariables false
set_option linter.unusedSimpArgs false


theorem bt_put_full (col : Nat → Nat) (i : Nat) (w : World) (b : Nat) (L : List Thg) (most lost : Int) (m : Thg) (h : Bag 91 43 2 encT col i w b L most lost) (hn : most ≤ (L.length : Int)) :
    Calls Try.prog 21 #[.pointer (some ⟨b, 0, none⟩), .agg #[.int .i64 m.1, .string m.2]] w fun e w' => e = .returned (.bool false) ∧ Bag 91 43 2 encT (paint col w i) i w' b L most (wrap64 (lost + 1)) ∧ Ch col i w w' := by
  obtain ⟨⟨v, hb, hr⟩, h1, h2, h3⟩ := h
  have HB := below_alloc (Below.refl w.heap.size w) (.cells #[.int .i64 m.1, .string m.2] 43)
  obtain ⟨p, c, rfl⟩ := hr.form
  have hbA := hp_below HB hb.hp
  have hrA := hr.below HB
  have cb := hp_cell hbA
  have fb := hp_free hbA
  go_enter Try.func21, Try.ntmps21
  go_wp2
  go_quiet (fail)
  go_wp2
  go_ret
  have HB2 := below_drewN HB nq
  have hb2 := hp_below HB2 hb.hp
  have hr2 := hr.below HB2
  refine ⟨rfl, ⟨⟨_, ⟨hp_set hb2 _, paint_of hb.col⟩, hr2.set (hr2.ne hb2 (by decide)) _⟩, h1, h2, h3⟩, (Ch.of_below HB2).setCell (paint_of hb.col) _⟩
theorem newsT {w : World} {x : Nat} {m : Thg} (h : hp w x = some (.cells #[.int .i64 m.1, .string m.2] 43 (0, 0))) : ∀ j u, (encT m)[j]? = some u → w.cell? ((⟨x, 0, none⟩ : Addr).add j) = some u := by
  intro j u hj
  rw [Addr.add_lit, Nat.zero_add, hp_cell h]
  match j, hj with
  | 0, hj => simpa [encT] using hj
  | 1, hj => simpa [encT] using hj
theorem bt_put_room (col : Nat → Nat) (i : Nat) (w : World) (b : Nat) (L : List Thg) (most lost : Int) (m : Thg) (h : Bag 91 43 2 encT col i w b L most lost) (hn : (L.length : Int) < most) :
    Calls Try.prog 21 #[.pointer (some ⟨b, 0, none⟩), .agg #[.int .i64 m.1, .string m.2]] w fun e w' => e = .returned (.bool true) ∧ Bag 91 43 2 encT (paint col w i) i w' b (L ++ [m]) most lost ∧ Ch col i w w' := by
  obtain ⟨i0, hi, hz0, hz1, hz2⟩ := info_parts Try.info43
  obtain ⟨⟨v, hb, hr⟩, h1, h2, h3⟩ := h
  have HB := below_alloc (Below.refl w.heap.size w) (.cells #[.int .i64 m.1, .string m.2] 43)
  obtain ⟨p, c, rfl⟩ := hr.form
  have hbA := hp_below HB hb.hp
  have hxA := hp_alloc_new w (.cells #[.int .i64 m.1, .string m.2] 43)
  have cb := hp_cell hbA
  have cx := hp_cell hxA
  go_enter Try.func21, Try.ntmps21
  go_wp2
  go_quiet (fail)
  go_wp2
  refine Ph.at_world ?_; intro Z hZ
  have hbZ : hp Z b = some (.cells #[.slice p L.length c, .int .i64 most, .int .i64 lost] 91 (0, 0)) := by rw [hZ]; exact hp_below (below_drewN (Below.refl _ _) nq) hbA
  have hrZ : Row (paint col w i) i Z 43 2 (.slice p L.length c) L.length (L.flatMap encT) := by rw [hZ]; exact hr.below (below_drewN HB nq)
  have hxZ : hp Z w.heap.size = some (.cells #[.int .i64 m.1, .string m.2] 43 (0, 0)) := by rw [hZ]; exact hp_below (below_drewN (Below.refl _ _) nq) hxA
  have HCZ : Ch col i w Z := by rw [hZ]; exact Ch.of_below (below_drewN HB nq)
  have hcb := hb.col
  clear hZ hbA hxA cb cx hr HB hb
  refine Ph.wp_region_gr 6 7 [true] (by kernel_rfl) (by kernel_rfl) (fun _ d _ _ _ h => by cases d <;> exact h) ?_
  simp only [List.take_succ_cons, List.take_zero, List.drop_succ_cons, List.drop_zero]
  repeat ((first | (apply Ph.wpG_op rfl; (focus (intro w1 hS0; have cb1 := hp_cell (hp_below hS0 hbZ); have cx1 := hp_cell (hp_below hS0 hxZ); go_simp; first | exact rfl | exact ⟨rfl, Below.refl _ _⟩))) | (apply Ph.wpG_late; (focus (intro w1; go_simp; exact rfl)))); simp only [List.tail_cons, List.tail_nil, Act.put, List.setIfInBounds_toArray, List.set_cons_zero, List.set_cons_succ])
  refine Ph.wpG_nil ?_
  apply Ph.wpAl_op (fun g => .slice (some ⟨g, 0, none⟩) 1 1) rfl; (focus (intro w1; go_simp; exact rfl))
  intro x; simp only [List.tail_cons, List.tail_nil, Act.put, List.setIfInBounds_toArray, List.set_cons_zero, List.set_cons_succ]
  refine Ph.wpAl_nil ?_; intro w2 hS hgs hne
  simp only [List.nil_append, List.cons_append, List.forall_mem_cons, List.pairwise_cons, Prod.mk.injEq] at hgs hne
  obtain ⟨⟨bx, kx⟩, _⟩ := hgs
  have hr2 := hrZ.kept (Mv.of_below (S := []) hS) (by simp)
  have hb2 := hp_below hS hbZ
  have HC2 := HCZ.below hS
  have hvb := hr2.ne hb2 (by decide)
  have hx2 : hp w2 x = some (.cells #[.int .i64 m.1, .string m.2] 43 (0, 0)) := kx
  clear kx
  refine wpList_append_col rfl (.tmp 28) (.tmp 30) 38 rfl 43 i0 (.agg #[.int .i64 0, .string ⟨#[]⟩]) 2 24 Try.underlying38 hi hz0 hz1 hz2 rfl (by decide) _ L.length (L.flatMap encT) rfl hr2 ⟨x, 0, none⟩ 1 1 (encT m) rfl rfl (newsT hx2) (encT_ok.one _) ?c3 ?c4 ?k
  case c3 => unfold maxLen; omega
  case c4 => omega
  case k =>
    intro p' c' w3 hr3 hC3 hg3
    rw [paint_paint HC2.size] at hr3
    have hb3 := hp_grown hb2 hg3 (fun e => hvb e.symm)
    have HC3 := HC2.trans hC3
    have cb3 := hp_cell hb3
    have fb3 := hp_free hb3
    go_wp2
    go_ret
    refine ⟨rfl, ⟨⟨_, ⟨hp_set hb3 _, paint_of hcb⟩, ?_⟩, h1, h2, by simp; omega⟩, HC3.setCell (paint_of hcb) _⟩
    have e : (L ++ [m]).flatMap encT = L.flatMap encT ++ encT (m) := by simp
    rw [e, List.length_append]
    exact hr3.set (hr3.ne hb3 (by decide)) _

end Go.Proofs.Ytgacbfbjikjanaa
