/- A bag of things: listed, taken. -/
import Derived.Test.YtgacbfbjikjanaaTh2
import Derived.WalkKit
import Derived.WalkLawsBesides
import Derived.WalkSpells
import Derived.Below
import Derived.Deep.RegionHeld3
import Derived.Deep.QuietTactic
import Derived.BigQuiet
import Derived.Deep.DeepCutAuto
import Derived.Deep.DeepMust
import Derived.KernelRfl
import Derived.Lib.Hide
import Derived.Outline
import Derived.RegionTactic
import Derived.StillTailTactics
namespace Go.Proofs.Ytgacbfbjikjanaa
open Go.RowKit Go.Cl
set_option maxRecDepth 100000
set_option linter.unusedVariables false
set_option linter.unusedSimpArgs false


theorem bt_at_no (col : Nat → Nat) (i : Nat) (w : World) (b : Nat) (L : List Thg) (most lost : Int) (h : Bag 91 43 2 encT col i w b L most lost) (I : Int) (hI : I < 0 ∨ (L.length : Int) ≤ I) :
    Calls Try.prog 25 #[.pointer (some ⟨b, 0, none⟩), .int .i64 I] w fun e w' => e = .returned (.tuple #[.agg #[.int .i64 0, .string ⟨#[]⟩], .bool false]) ∧ Below w.heap.size w w' := by
  have hl := bt_len col i
  have HA := below_alloc (Below.refl w.heap.size w) (.cells #[.int .i64 0, .string ⟨#[]⟩] 43)
  have hlb := h.below HA
  by_cases hi0 : I < 0
  · go_enter Try.func25, Try.ntmps25
    go_wp2
    exact bodyPost_ret (v := .tuple #[.agg #[.int .i64 0, .string ⟨#[]⟩], .bool false]) (by simp [results, Try.results25, go_sem]) rfl ⟨rfl, below_alloc (below_alloc (Below.refl _ _) _) _⟩
  · have hi1 : (L.length : Int) ≤ I := by omega
    have hi2 : 0 ≤ I := by omega
    clear hI hi0
    go_enter Try.func25, Try.ntmps25
    go_wp2_with (go_at_call 22; refine (hl _ b L most lost hlb).mono ?_; rintro e w' ⟨rfl, rfl⟩)
    exact bodyPost_ret (v := .tuple #[.agg #[.int .i64 0, .string ⟨#[]⟩], .bool false]) (by simp [results, Try.results25, go_sem]) rfl ⟨rfl, below_alloc (below_alloc (Below.refl _ _) _) _⟩


/-- slices.Clone: another row with the same, all new. -/
theorem bt_sclone (col : Nat → Nat) (i k : Nat) (w : World) (v : Value) (n : Nat) (L : List Thg) (hL : L.length = n) (hr : Row col i w 43 2 v n (L.flatMap encT)) (hn : n ≤ 1000000000000) :
    Calls Try.prog 51 #[v] w fun e w' => ∃ p c, e = .returned (.slice p n c) ∧ Row (paint col w k) k w' 43 2 (.slice p n c) n (L.flatMap encT) ∧ Below w.heap.size w w' := by
  obtain ⟨i0, hi, hz0, hz1, hz2⟩ := info_parts Try.info43
  rcases hr.own.2 with ⟨rfl, rfl⟩ | ⟨g, c, cur, rfl, _, hg, hnc, hcm, hcs, htk⟩
  · obtain rfl : L = [] := List.eq_nil_of_length_eq_zero hL
    have hnil := fun (W : World) => Lib.run_eql_slice_nil (P := Try.prog) W 38 43 none 0 0 0 0 Try.underlying38
    go_enter Try.func51, Try.ntmps51
    go_wp2
    go_ret
    exact ⟨none, 0, rfl, Row.nil', Below.refl _ _⟩
  · have hs := encT_ok.src (w := w.alloc (.cells #[] 43)) L 0 (hp_alloc_old hg _) (by rw [hL]; exact htk)
    have hnew : Row (paint col w k) k (w.alloc (.cells #[] 43)) 43 2 (.slice (some ⟨w.heap.size, 0, none⟩) 0 0) 0 [] := ⟨World.ownsRow_made w #[] 0 (Nat.zero_le _) (by unfold maxLen; omega) (by simp), fun g hg => by simp [Value.ownBlock] at hg; subst hg; exact paint_new (Nat.le_refl _)⟩
    have hb := below_alloc (Below.refl w.heap.size w) (.cells #[] 43)
    simp only [Nat.zero_mul, List.drop_zero] at hs
    clear htk
    have hnil := fun (W : World) => Lib.run_eql_slice_nil (P := Try.prog) W 38 43 (some ⟨g, 0, none⟩) n c 0 0 Try.underlying38
    go_enter Try.func51, Try.ntmps51
    go_wp2_with (at_builtin; refine wpList_append_col rfl (.tmp 5) (.tmp 6) 38 rfl 43 i0 (.agg #[.int .i64 0, .string ⟨#[]⟩]) 2 24 Try.underlying38 hi hz0 hz1 hz2 rfl (by decide) _ 0 [] rfl hnew ⟨g, 0, none⟩ n c (L.flatMap encT) rfl (by rw [encT_ok.length, hL]) hs (encT_ok.ones _) ?c3 ?c4 ?k)
    case c3 => unfold maxLen; omega
    case c4 => omega
    case k =>
      intro p' c' w1 hr1 hC hgr
      rw [paint_paint hb.size] at hr1
      try simp only [Nat.zero_add, List.nil_append] at hr1
      try simp only [Nat.zero_add]
      go_wp2
      go_ret
      exact ⟨p', c', rfl, hr1, hb.grown hgr hb.size (fun k hk => by simp [Value.ownBlock] at hk; omega)⟩
theorem bt_list (col : Nat → Nat) (i : Nat) (w : World) (b : Nat) (L : List Thg) (most lost : Int) (k : Nat) (h : Bag 91 43 2 encT col i w b L most lost) :
    Calls Try.prog 24 #[.pointer (some ⟨b, 0, none⟩)] w fun e w' => ∃ p c, e = .returned (.slice p L.length c) ∧ Row (paint col w k) k w' 43 2 (.slice p L.length c) L.length (L.flatMap encT) ∧ Below w.heap.size w w' := by
  obtain ⟨⟨v, hb, hr⟩, h1, h2, h3⟩ := h
  have hcl := bt_sclone col i k w v L.length L rfl hr (by omega)
  obtain ⟨p, c, rfl⟩ := hr.form
  have cb := hp_cell hb.hp
  go_enter Try.func24, Try.ntmps24
  go_wp2_with (go_at_call 51; refine hcl.mono ?_; rintro e w' ⟨p', c', rfl, hr', hb'⟩)
  go_ret
  exact ⟨p', c', rfl, hr', hb'⟩


set_option maxHeartbeats 1600000 in
theorem bt_take (col : Nat → Nat) (i : Nat) (w : World) (b : Nat) (L : List Thg) (most lost : Int) (h : Bag 91 43 2 encT col i w b L most lost) (j : Nat) (hj : j < L.length) :
    Calls Try.prog 23 #[.pointer (some ⟨b, 0, none⟩), .int .i64 j] w fun e w' => e = .returned (.tuple #[.agg #[.int .i64 L[j].1, .string L[j].2], .bool true]) ∧ Bag 91 43 2 encT (paint col w i) i w' b (L.eraseIdx j) most lost ∧ Ch col i w w' := by
  obtain ⟨i0, hi, hz0, hz1, hz2⟩ := info_parts Try.info43
  have HA := below_alloc (Below.refl w.heap.size w) (.cells #[.int .i64 0, .string ⟨#[]⟩] 43)
  have hat := bt_at col i _ b L most lost (h.below HA) j hj
  generalize L[j] = m at hat ⊢
  have HAT := Lib.hid hat; clear hat
  obtain ⟨⟨v, hb, hr⟩, h1, h2, h3⟩ := h
  have hne := hr.ne hb.hp (by decide)
  obtain ⟨g, c, cur, rfl, hg, hnc, hcm, hcs, htk, hgc⟩ := hr.pos (by omega)
  have hgb : g ≠ b := fun e => hne (by simp [Value.ownBlock, e])
  have hx4 := hp_alloc_new w (.cells #[.int .i64 0, .string ⟨#[]⟩] 43)
  have hj0 : (0 : Int) ≤ (j : Int) := by omega
  unfold maxLen at hcm
  have hcl : cur.toList.length = c * 2 := by simpa using hcs
  have p1 : j ≤ L.length := by omega
  have p2 : j + 1 ≤ L.length := by omega
  have p3 : ¬ (c = j) := by omega
  have s3 : (0 : Int) ≤ (j : Int) + 1 := by omega
  have s4 : (j : Int) + 1 ≤ (L.length : Int) := by omega
  have s1 : IntKind.i64.wrap ((j : Int) + 1) = (j : Int) + 1 := IntWalk.i64_in _ (by omega)
  have s2 : ((j : Int) + 1).toNat = j + 1 := by omega
  go_enter Try.func23, Try.ntmps23
  go_wp2_with (go_at_call 25; refine HAT.out.mono ?_; rintro e w1 ⟨rfl, hb1⟩)
  refine Ph.at_world ?_; intro Z hZ
  have hsz : w.heap.size + 1 ≤ w1.heap.size := by have := hb1.size; simpa using this
  have HBZ : Below w.heap.size w Z := by rw [hZ]; exact below_alloc (below_call HA hb1) _
  have hgZ := hp_below HBZ hg
  have hbZ := hp_below HBZ hb.hp
  have hx4Z : hp Z w.heap.size = some (.cells #[.int .i64 0, .string ⟨#[]⟩] 43 (0, 0)) := by rw [hZ]; exact hp_alloc_old (hp_below hb1 hx4) _
  have hx6Z : hp Z w1.heap.size = some (.cells #[.int .i64 m.1, .string m.2] 43 (0, 0)) := by rw [hZ]; exact hp_alloc_new _ _
  have hlg := hp_lt hg; have hlb := hp_lt hb.hp
  have n4g : w.heap.size ≠ g := by omega
  have n4b : w.heap.size ≠ b := by omega
  have n6g : w1.heap.size ≠ g := by omega
  have n6b : w1.heap.size ≠ b := by omega
  have n46 : w.heap.size ≠ w1.heap.size := by omega
  have hgc' : paint col w i g = i := paint_of hgc
  have hbc' : paint col w i b = i := paint_of hb.col
  have hxc' : paint col w i w.heap.size = i := paint_new (Nat.le_refl _)
  have HCZ : Ch col i w Z := Ch.of_below HBZ
  clear hZ HBZ hb1 hx4 hlg hlb hg hb hgc hr HA
  have HH := Lib.hid (And.intro n4g (And.intro n4b (And.intro n6g (And.intro n6b n46))))
  clear n4g n4b n6g n6b n46
  generalize w.heap.size = x4 at hx4Z hxc' HH ⊢
  generalize w1.heap.size = x6 at hx6Z HH ⊢
  refine Ph.wp_region_gr 13 13 [] (by kernel_rfl) (by kernel_rfl) (fun _ d _ _ _ h => by cases d <;> exact h) ?_
  simp only [List.take_succ_cons, List.take_zero, List.drop_succ_cons, List.drop_zero]
  repeat ((first | (apply Ph.wpG_op rfl; (focus (intro w1 hS0; have d := hp_cell (hp_below hS0 hbZ); go_simp; first | exact rfl | exact ⟨rfl, Below.refl _ _⟩)))); simp only [List.tail_cons, List.tail_nil, Act.put, List.setIfInBounds_toArray, List.set_cons_zero, List.set_cons_succ])
  refine Ph.wpG_nil ?_
  refine Ph.wpAl_nil ?_; intro w2 hS _ _
  generalize hsp : (if c = j + 1 then some (⟨g, 0, none⟩ : Addr) else some ⟨g, (j + 1) * 2, none⟩) = sp
  have HSP := Lib.hid hsp; clear hsp
  have hg2 := hp_below hS hgZ
  have hb2 := hp_below hS hbZ
  have hx42 := hp_below hS hx4Z
  have hx62 := hp_below hS hx6Z
  have HC2 := HCZ.below hS
  clear s1 s2 hgZ hbZ hx4Z hx6Z HCZ
  refine wpList_copy_col rfl (.tmp 20) (.tmp 27) 38 38 rfl 43 i0 2 Try.underlying38 hi hz1 _ _ _ _ _ _ rfl rfl g (j * 2) cur 43 hg2 (L.length - (j + 1)) (by show _ = min _ _; omega) ((L.drop (j + 1)).flatMap encT) (by rw [encT_ok.length, List.length_drop]) ?hpos ?hfit (encT_ok.ones _) ?k
  case hpos => exact fun h => ⟨rfl, ⟨g, (j + 1) * 2, none⟩, by rw [← HSP.out]; exact if_neg (by omega), by simpa using encT_ok.src L (j + 1) hg2 htk⟩
  case hfit => rw [encT_ok.length, List.length_drop, hcs, ← Nat.add_mul]; exact Nat.mul_le_mul_right _ (by omega)
  case k =>
    intro w3 hg3 hw3
    obtain ⟨n4g, n4b, n6g, n6b, n46⟩ := HH.out
    have hb3 := hp_grown hb2 hw3 (by simp; omega)
    have hx43 := hp_grown hx42 hw3 (by simp; omega)
    have hx63 := hp_grown hx62 hw3 (by simp; omega)
    have HC3 := HC2.grown hw3 (fun k hk => by simp at hk; subst hk; exact hgc')
    clear n4g n4b n6g n6b n46
    have hl3 : (lay cur.toList (j * 2) ((L.drop (j + 1)).flatMap encT)).length = c * 2 := by
      rw [length_lay, hcl]
      rw [encT_ok.length, List.length_drop, hcl, ← Nat.add_mul]; exact Nat.mul_le_mul_right _ (by omega)
    have ht3 := fun zs => encT_ok.taken L j hj cur.toList zs htk (by rw [hcl]; exact Nat.mul_le_mul_right _ hnc)
    have HT := Lib.hid ht3; clear ht3
    generalize hlay : lay cur.toList (j * 2) ((L.drop (j + 1)).flatMap encT) = cur3 at hl3 hg3 HT
    clear hlay
    have HL3 := Lib.hid hl3; clear hl3
    have q0 : (0 : Int) ≤ (L.length : Int) - 1 := by omega
    have q1 : L.length - 1 ≤ L.length := by omega
    have q2 : ¬ (c = L.length - 1) := by omega
    have q3 : IntKind.i64.wrap ((L.length : Int) - 1) = (L.length : Int) - 1 := IntWalk.i64_in _ (by omega)
    have q4 : ((L.length : Int) - 1).toNat = L.length - 1 := by omega
    have q5 : (L.length : Int) - 1 ≤ (L.length : Int) := by omega
    have q6 : L.length - 1 ≤ c := by omega
    have q7 : (1 : Int) ≤ (L.length : Int) := by omega
    have q8 : 1 ≤ L.length := by omega
    have q9 : (L.length : Int) - 1 ≤ (c : Int) := by omega
    go_wp2
    refine Ph.wp_region_gr 11 11 [] (by kernel_rfl) (by kernel_rfl) (fun _ d _ _ _ h => by cases d <;> exact h) ?_
    simp only [List.take_succ_cons, List.take_zero, List.drop_succ_cons, List.drop_zero]
    repeat ((first | (apply Ph.wpG_op rfl; (focus (intro w1 hS0; have d := hp_cell (hp_below hS0 hb3); go_simp; first | exact rfl | exact ⟨rfl, Below.refl _ _⟩)))); simp only [List.tail_cons, List.tail_nil, Act.put, List.setIfInBounds_toArray, List.set_cons_zero, List.set_cons_succ])
    refine Ph.wpG_nil ?_
    refine Ph.wpAl_nil ?_; intro w4 hS4 _ _
    have hg4 := hp_below hS4 hg3
    have hb4 := hp_below hS4 hb3
    have hx44 := hp_below hS4 hx43
    have hx64 := hp_below hS4 hx63
    have HC4 := HC3.below hS4
    clear hg3 hb3 hx43 hx63 HC3 hx42 hx62 hg2 hb2 HC2
    refine wpList_clear_col rfl (.tmp 39) 38 rfl 43 (.agg #[.int .i64 0, .string ⟨#[]⟩]) Try.underlying38 Try.zeroValue43 _ (L.length - (L.length - 1)) (c - (L.length - 1)) g ((L.length - 1) * 2) (by simp [Act.eval]) rfl (by omega) cur3.toArray 43 hg4 ?hfit2 (zero_ones (by intro u hu; simp [Value.cells] at hu; rcases hu with rfl | rfl <;> rfl) _) ?k2
    case hfit2 =>
      rw [zero_len, show cur3.toArray.size = c * 2 from by rw [← HL3.out]; simp]
      exact Nat.le_trans (Nat.le_of_eq (Nat.add_mul _ _ _).symm) (Nat.mul_le_mul_right _ (by omega))
    case k2 =>
      intro w5 hg5 hw5
      obtain ⟨n4g, n4b, n6g, n6b, n46⟩ := HH.out
      have hb5 := hp_grown hb4 hw5 (by simp; omega)
      have hx45 := hp_grown hx44 hw5 (by simp; omega)
      have hx65 := hp_grown hx64 hw5 (by simp; omega)
      have HC5 := HC4.grown hw5 (fun k hk => by simp at hk; subst hk; exact hgc')
      clear n4g n4b n6g n6b n46
      have ht5 := HT.out (Builtin.zeroCells (.agg #[.int .i64 0, .string ⟨#[]⟩] : Value).cells (L.length - (L.length - 1))).toList
      have hl5 : (lay cur3 ((L.length - 1) * 2) (Builtin.zeroCells (.agg #[.int .i64 0, .string ⟨#[]⟩] : Value).cells (L.length - (L.length - 1))).toList).length = c * 2 := by
        rw [length_lay, HL3.out]
        rw [zero_len, HL3.out]
        exact Nat.le_trans (Nat.le_of_eq (Nat.add_mul _ _ _).symm) (Nat.mul_le_mul_right _ (by omega))
      generalize hlay : lay cur3 ((L.length - 1) * 2) (Builtin.zeroCells (.agg #[.int .i64 0, .string ⟨#[]⟩] : Value).cells (L.length - (L.length - 1))).toList = cur5 at ht5 hl5 hg5
      have HT5 := Lib.hid ht5; clear ht5
      have HL5 := Lib.hid hl5; clear hl5
      clear hlay
      go_wp2
      refine Ph.wp_region_gr 14 14 [] (by kernel_rfl) (by kernel_rfl) (fun _ d _ _ _ h => by cases d <;> exact h) ?_
      simp only [List.take_succ_cons, List.take_zero, List.drop_succ_cons, List.drop_zero]
      repeat ((first | (apply Ph.wpG_op rfl; (focus (intro w1 hS0; have d := hp_cell (hp_below hS0 hb5); go_simp; first | exact rfl | exact ⟨rfl, Below.refl _ _⟩)))); simp only [List.tail_cons, List.tail_nil, Act.put, List.setIfInBounds_toArray, List.set_cons_zero, List.set_cons_succ])
      refine Ph.wpG_nil ?_
      refine Ph.wpAl_nil ?_; intro w6 hS6 _ _
      have hg6 := hp_below hS6 hg5
      have hb6 := hp_below hS6 hb5
      have hx46 := hp_below hS6 hx45
      have hx66 := hp_below hS6 hx65
      have HC6 := HC5.below hS6
      clear hg5 hb5 hx45 hx65 HC5 hg4 hb4 hx44 hx64 HC4
      have cb6 := hp_cell hb6
      have fb6 := hp_free hb6
      clear q3 q4
      go_upto_region 6 with fail
      refine Ph.at_world ?_; intro Y hY
      obtain ⟨n4g, n4b, n6g, n6b, n46⟩ := HH.out
      have hbY := hp_set hb6 (i := 0) (.slice (some ⟨g, 0, none⟩) (L.length - 1) c)
      have hgY := hp_set_ne hg6 (p := ⟨b, 0, none⟩) hgb (.slice (some ⟨g, 0, none⟩) (L.length - 1) c)
      have hx4Y := hp_set_ne hx46 (p := ⟨b, 0, none⟩) n4b (.slice (some ⟨g, 0, none⟩) (L.length - 1) c)
      have hx6Y := hp_set_ne hx66 (p := ⟨b, 0, none⟩) n6b (.slice (some ⟨g, 0, none⟩) (L.length - 1) c)
      have HCY := HC6.setCell (p := ⟨b, 0, none⟩) hbc' (.slice (some ⟨g, 0, none⟩) (L.length - 1) c)
      rw [← hY] at hbY hgY hx4Y hx6Y HCY
      clear hY hb6 hg6 hx46 hx66 HC6 cb6 fb6 n4g n4b n6g n6b n46
      have cx6 := hp_cell hx6Y
      have fx4 := hp_free hx4Y
      have cx4 := hp_cell hx4Y
      go_wp2
      obtain ⟨n4g, n4b, n6g, n6b, n46⟩ := HH.out
      have hx4F := hp_set (hp_set hx4Y (i := 0) (.int .i64 m.1)) (i := 1) (.string m.2)
      have hbF := hp_set_ne (hp_set_ne hbY (p := ⟨x4, 0, none⟩) (fun e => n4b e.symm) (.int .i64 m.1)) (p := ⟨x4, 1, none⟩) (fun e => n4b e.symm) (.string m.2)
      have hgF := hp_set_ne (hp_set_ne hgY (p := ⟨x4, 0, none⟩) (fun e => n4g e.symm) (.int .i64 m.1)) (p := ⟨x4, 1, none⟩) (fun e => n4g e.symm) (.string m.2)
      have HCF := (HCY.setCell (p := ⟨x4, 0, none⟩) hxc' (.int .i64 m.1)).setCell (p := ⟨x4, 1, none⟩) hxc' (.string m.2)
      refine bodyPost_ret (v := .tuple #[.agg #[.int .i64 m.1, .string m.2], .bool true]) (by simp [results, Try.results23, go_sem, hp_cell hx4F]) rfl ⟨rfl, ⟨⟨_, ⟨hbF, hbc'⟩, ?_⟩, h1, h2, by rw [List.length_eraseIdx_of_lt hj]; omega⟩, HCF⟩
      rw [List.length_eraseIdx_of_lt hj]
      exact Row.mk' hgF (by omega) (by unfold maxLen; omega) (by rw [List.size_toArray]; exact HL5.out) HT5.out (by rw [encT_ok.length, List.length_eraseIdx_of_lt hj]) hgc'
theorem bt_double_room (col : Nat → Nat) (i : Nat) (w : World) (b : Nat) (L : List Thg) (most lost : Int) (h : Bag 91 43 2 encT col i w b L most lost) (j : Nat) (hj : j < L.length) (hn : (L.length : Int) < most) :
    Calls Try.prog 26 #[.pointer (some ⟨b, 0, none⟩), .int .i64 j] w fun e w' => e = .returned (.bool true) ∧ Bag 91 43 2 encT (paint col w i) i w' b (L ++ [L[j]]) most lost ∧ Ch col i w w' := by
  have hat := bt_at col i w b L most lost h j hj
  generalize L[j] = m at hat ⊢
  have hput := fun W (hW : Below w.heap.size w W) => bt_put_room (paint col w i) i W b L most lost m ⟨h.ex.elim fun v hv => ⟨v, hv.1.below hW, hv.2.below hW⟩, h.lo, h.hi, h.len⟩ hn
  have HPUT := Lib.hid hput
  clear hput hn h
  go_enter Try.func26, Try.ntmps26
  go_wp2_with (first | (go_at_call 25; refine hat.mono ?_; rintro e w1 ⟨rfl, hb1⟩) | (go_at_call 21; refine (HPUT.out _ (below_alloc hb1 _)).mono ?_; rintro e w' ⟨rfl, hB, hC⟩))
  go_ret
  have hb2 := below_alloc hb1 (.cells #[.int .i64 m.1, .string m.2] 43)
  rw [paint_paint hb2.size] at hB
  exact ⟨rfl, hB, (Ch.of_below hb2).trans hC⟩
theorem bt_double_no (col : Nat → Nat) (i : Nat) (w : World) (b : Nat) (L : List Thg) (most lost : Int) (h : Bag 91 43 2 encT col i w b L most lost) (I : Int) (hI : I < 0 ∨ (L.length : Int) ≤ I) :
    Calls Try.prog 26 #[.pointer (some ⟨b, 0, none⟩), .int .i64 I] w fun e w' => e = .returned (.bool false) ∧ Below w.heap.size w w' := by
  have hat := bt_at_no col i w b L most lost h I hI
  clear hI
  go_enter Try.func26, Try.ntmps26
  go_wp2_with (go_at_call 25; refine hat.mono ?_; rintro e w1 ⟨rfl, hb1⟩)
  go_ret
  exact ⟨rfl, below_alloc hb1 _⟩

end Go.Proofs.Ytgacbfbjikjanaa
