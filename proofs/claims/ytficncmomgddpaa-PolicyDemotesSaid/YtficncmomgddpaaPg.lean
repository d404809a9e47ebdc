/- Places: an order of entries. -/
import Derived.Test.YtficncmomgddpaaPf
import Derived.WalkKit
import Derived.WalkLawsBesides
import Derived.WalkSpells
import Derived.Below
import Derived.Deep.RegionHeld3
import Derived.Deep.QuietTactic
import Derived.BigQuiet
import Derived.Deep.DeepCutAuto
import Derived.Deep.DeepMust
import Derived.KernelRfl
import Derived.Lib.Hide
import Derived.Outline
import Derived.RegionTactic
import Derived.StillTailTactics
namespace Go.Proofs.Ytficncmomgddpaa
open Go.RowKit Go.Cl
set_option maxRecDepth 100000
set_option linter.unusedVariables false
set_option linter.unusedSimpArgs false

open Go.Ps
set_option maxHeartbeats 1000000 in
theorem ins_nil (f : Value) (w : World) : Calls Try.prog 33 #[.slice none 0 0, .int .i64 0, .int .i64 0, f] w fun e w' => e = .returned (.tuple #[]) ∧ w = w' := by
  go_enter Try.func33, Try.ntmps33
  go_wp2
  go_loopw [8] (fun x wr => x = .int .i64 1 ∧ w = wr) (fun _ _ => 0)
  case atStart => exact ⟨rfl, rfl⟩
  case round =>
    obtain ⟨rfl, rfl⟩ := hrel
    go_wp2
    refine bodyPost_end (results_none rfl _ _ _) rfl ?_
    exact ⟨rfl, rfl⟩
set_option maxHeartbeats 1000000 in
theorem stable_nil (f : Value) (w : World) : Calls Try.prog 32 #[.slice none 0 0, .int .i64 0, f] w fun e w' => e = .returned (.tuple #[]) ∧ w = w' := by
  go_enter Try.func32, Try.ntmps32
  go_wp2
  go_loopw [7, 8] (fun x y wr => x = .int .i64 0 ∧ y = .int .i64 20 ∧ w = wr) (fun _ _ _ => 0)
  case atStart => exact ⟨rfl, rfl, rfl⟩
  case round =>
    obtain ⟨rfl, rfl, rfl⟩ := hrel
    go_wp2_with (go_at_call 33; (with_reducible refine (ins_nil _ _).mono ?_); rintro e w1 ⟨rfl, rfl⟩)
    go_loopw [6] (fun x wr => x = .int .i64 20 ∧ w = wr) (fun _ _ => 0)
    case atStart => exact ⟨rfl, rfl⟩
    case round =>
      obtain ⟨rfl, rfl⟩ := hrel
      go_wp2
      refine bodyPost_end (results_none rfl _ _ _) rfl ?_
      exact ⟨rfl, rfl⟩
set_option maxHeartbeats 1000000 in
theorem sort_nil (f : Value) (w : World) : Calls Try.prog 28 #[.slice none 0 0, f] w fun e w' => e = .returned (.tuple #[]) ∧ w = w' := by
  go_enter Try.func28, Try.ntmps28
  go_wp2_with (go_at_call 32; (with_reducible refine (stable_nil _ _).mono ?_); rintro e w1 ⟨rfl, rfl⟩)
  refine bodyPost_end (results_none rfl _ _ _) rfl ?_
  exact ⟨rfl, rfl⟩
theorem info_parts {x : Option TypeInfo} {z : Value} {s b : Nat} (h : x.map (fun i => (i.zero, i.size, i.bytes)) = some (some z, s, b)) : ∃ i, x = some i ∧ i.zero = some z ∧ i.size = s ∧ i.bytes = b := by
  cases x with
  | none => cases h
  | some i => simp at h; exact ⟨i, rfl, h.1, h.2.1, h.2.2⟩
theorem Try.info3 : (Try.prog.info? 3).map (fun i => (i.zero, i.size, i.bytes)) = some (some (.int .i64 0), 1, 8) := by kernel_rfl
theorem one_cell (w : World) (v : Value) (t : TypeId) : ∀ j u, [v][j]? = some u → (w.alloc (.cells #[v] t (0, 0))).cell? ((⟨w.heap.size, 0, none⟩ : Addr).add j) = some u := by
  intro j u h
  have hj : j = 0 := by
    have := (List.getElem?_eq_some_iff.1 h).1
    simp at this; omega
  subst hj
  simp at h; subst h
  have e : (⟨w.heap.size, 0, none⟩ : Addr).add 0 = ⟨w.heap.size, 0, none⟩ := rfl
  rw [e, hp_cell (hp_alloc_new w _)]; rfl
def ints (n : Nat) : List Value := (List.range n).map fun k : Nat => Value.int .i64 (k : Int)
theorem ints_succ (n : Nat) : ints (n + 1) = ints n ++ [.int .i64 (n : Int)] := by unfold ints; rw [List.range_succ, List.map_append]; rfl
theorem ints_get {n k : Nat} (h : k < n) : (ints n)[k]? = some (.int .i64 (k : Int)) := by unfold ints; simp [h]
/-- A slice of entries. -/
structure Ents (w : World) (v : Value) (n : Nat) (E : Nat → En) : Prop where
  ex : ∃ p cp, v = .slice p n cp ∧ ∀ i, i < n → ∃ b o, p = some ⟨b, o, none⟩ ∧ b < w.heap.size ∧ EnAt w b (o + i * 8) (E i)
/-- Numbers in a slice; they lie in a block of their own, at B or above. -/
def Ints (w : World) (B : Nat) (v : Value) (n : Nat) (D : Nat → Nat) : Prop :=
  ∃ p cp, v = .slice p n cp ∧ n ≤ cp ∧ (0 < n → ∃ g cur, p = some ⟨g, 0, none⟩ ∧ B ≤ g ∧ hp w g = some (.cells cur 3 (0, 0)) ∧ ∀ i, i < n → cur[i]? = some (.int .i64 (D i : Int)))
def PlInv (W1 : World) (n : Nat) (x y : Value) (wr : World) : Prop :=
  ∃ (i : Nat) (p : Option Addr) (cp : Nat) (c : Nat → Nat), x = .slice p i cp ∧ y = .int .i64 i ∧ i ≤ n ∧ Mv [1] (fun _ => 0) W1 c wr ∧ Row c 1 wr 3 1 (.slice p i cp) i (ints i) ∧ (i = 0 → p = none ∧ cp = 0)
/-- All is as it was but in one block, which is new. -/
theorem below_one {w W W' : World} {g : Nat} {c : Nat → Nat} (h : Below w.heap.size w W) (hm : Mv [1] (fun k => if k = g then 1 else 0) W c W') (hg : w.heap.size ≤ g) : Below w.heap.size w W' :=
  ⟨hm.os.trans h.os, hm.tape.trans h.tape, hm.output.trans h.output, Nat.le_trans h.size hm.size, fun k hk => (hm.block k (by have := h.size; omega) (by rw [if_neg (by omega)]; simp)).trans (h.block k hk)⟩

set_option maxHeartbeats 2000000 in
theorem c_places (w : World) (v : Value) (n : Nat) (E : Nat → En) (hE : Ents w v n E) (hn : n ≤ 1000) (tr : ∀ x y z, RR (fun x y => (E x).cmp (E y)) x y → RR (fun x y => (E x).cmp (E y)) y z → RR (fun x y => (E x).cmp (E y)) x z) :
    Calls Try.prog 20 #[v, .func (.func 19) #[] #[]] w fun e w' => Below w.heap.size w w' ∧ ∃ v' D, e = .returned v' ∧ Ints w' w.heap.size v' n D ∧ Pm 0 n (fun k => k) D ∧ Sd (RR (fun x y => (E x).cmp (E y))) 0 n D := by
  obtain ⟨i0, hi, hz0, hz1, hz2⟩ := info_parts Try.info3
  obtain ⟨p, cp, rfl, hent⟩ := hE
  have HEN := Lib.hid hent; clear hent
  have HTR := Lib.hid tr; clear tr
  go_enter Try.func20, Try.ntmps20
  go_upto_region 1 with fail
  refine Ph.at_world ?_; intro W1 hW
  have k0 : hp W1 w.heap.size = some (.cells #[.slice p n cp] 22 (0, 0)) := by rw [hW]; simp [hpA]
  have k1 : hp W1 (w.heap.size + 1) = some (.cells #[.func (.func 19) #[] #[]] 42 (0, 0)) := by rw [hW]; simp [hpA]
  have HB : Below w.heap.size w W1 := by rw [hW]; exact below_alloc (below_alloc (Below.refl _ _) _) _
  clear hW
  have c0 := hp_cell k0
  go_wp2
  clear c0
  go_loopw [5, 9] (PlInv W1 n) (fun _ y _ => n - (intOf y).toNat)
  case atStart => exact ⟨0, none, 0, fun _ => 0, rfl, rfl, Nat.zero_le _, Mv.refl, ⟨⟨rfl, .inl ⟨rfl, rfl⟩⟩, fun g hg => by simp [Value.ownBlock] at hg⟩, fun _ => ⟨rfl, rfl⟩⟩
  case round =>
    obtain ⟨i, q, cq, c, rfl, rfl, hi1, hm, hr, hz⟩ := hrel
    have HZE := Lib.hid hz; clear hz
    by_cases hlt : i < n
    · have b1 : (i : Int) < (n : Int) := by omega
      have w1 : IntKind.i64.wrap ((i : Int) + 1) = (i : Int) + 1 := IntWalk.i64_in _ (by omega)
      have hr2 := hr.kept (Mv.of_below (S := []) (below_alloc (Below.refl wr.heap.size wr) (.cells #[.int .i64 (i : Int)] 3 (0, 0)))) (by simp)
      have hm2 := hm.after_below (below_alloc (Below.refl wr.heap.size wr) (.cells #[.int .i64 (i : Int)] 3 (0, 0)))
      have HR := Lib.hid (And.intro hr2 hm2)
      clear hr hm hr2 hm2
      have HZ := Lib.hid (And.intro hi (And.intro hz0 (And.intro hz1 hz2)))
      have HK := Lib.hid (And.intro k0 (And.intro k1 HB))
      clear hz0 hz1 hz2 hi k0 k1 HB
      go_wp2_with (at_builtin; refine wpList_append_col rfl (.tmp 12) (.tmp 14) 33 rfl 3 i0 (.int .i64 0) 1 8 Try.underlying33 HZ.out.1 HZ.out.2.1 HZ.out.2.2.1 HZ.out.2.2.2 rfl (by decide) _ i (ints i) rfl HR.out.1 ⟨wr.heap.size, 0, none⟩ 1 1 [.int .i64 (i : Int)] rfl rfl (one_cell wr _ _) (by simp [Value.oneCell']) ?c3 ?c4 ?k)
      case c3 => unfold maxLen; omega
      case c4 => omega
      case k =>
        intro p' c' w1 hr1 hC hg
        go_wp2
        go_roundw
        case rel => exact ⟨i + 1, p', c', _, rfl, by go_num, by omega, HR.out.2.trans hC.mv, by rw [ints_succ]; exact hr1, fun h => by omega⟩
        case measure => simp [intOf]; omega
    · have hin : i = n := by omega
      subst hin
      have b1 : ¬ ((i : Int) < (i : Int)) := by omega
      by_cases hpos : 0 < i
      · obtain ⟨g, cg, cur, e1, hg1, hg2, hg3, hg4, hg5, hg6⟩ := hr.pos hpos
        simp only [Value.slice.injEq, true_and] at e1
        obtain ⟨rfl, rfl⟩ := e1
        have hB1 : Below W1.heap.size W1 wr := hm.toBelow (fun k _ => by simp)
        have hgW : W1.heap.size ≤ g := by
          rcases Nat.lt_or_ge g W1.heap.size with h | h
          · have := hm.col g h; rw [hg6] at this; cases this
          · exact h
        have kk0 := hp_below hB1 k0
        have kk1 := hp_below hB1 k1
        have l0 := hp_lt k0; have l1 := hp_lt k1
        obtain ⟨b, o, hbo, hbs, _⟩ := HEN.out 0 hpos
        have hss : SS wr (fun k => if k = g then 1 else 0) g i (fun k => k) wr := ⟨_, Mv.refl, ⟨cur, hg1, fun k hk => by
          have := ints_get hk
          rw [← hg5, List.getElem?_take, if_pos (by omega)] at this
          simpa using this⟩, by simp⟩
        have hcm : CmpOk wr (fun k => if k = g then 1 else 0) i (.pointer (some ⟨w.heap.size + 1, 0, none⟩)) (.pointer (some ⟨w.heap.size, 0, none⟩)) (fun x y => (E x).cmp (E y)) := by
          intro W' c' hm' x y hx hy
          have z0 := hp_mv kk0 hm' (by simp; omega)
          have z1 := hp_mv kk1 hm' (by simp; omega)
          have hB2 : Below w.heap.size w wr := below_call HB hB1
          have hbg : b ≠ g := by have := HB.size; omega
          have hh : W'.heap[b]? = w.heap[b]? := by
            rw [hm'.block b (by have := hB2.size; omega) (by simp; exact hbg)]; exact hB2.block b hbs
          obtain ⟨b', o', e', _, hx'⟩ := HEN.out x hx
          obtain ⟨b2, o2, e2, _, hy'⟩ := HEN.out y hy
          rw [hbo] at e' e2
          simp only [Option.some.injEq, Addr.mk.injEq, and_true] at e' e2
          obtain ⟨rfl, rfl⟩ := e'
          obtain ⟨rfl, rfl⟩ := e2
          rw [hbo] at z0
          exact pl_order W' (w.heap.size + 1) w.heap.size i cp b o x y (E x) (E y) z1 z0 hx hy hn (by have := hm'.size; have := hB2.size; omega) (hx'.of hh) (hy'.of hh)
        have hsort := st_sort wr (fun k => if k = g then 1 else 0) g i cq _ _ _ hn HTR.out hcm wr (fun k => k) hss (fun _ _ => rfl)
        have HS := Lib.hid hsort
        have HBB := Lib.hid (And.intro HB (And.intro hB1 (And.intro (show w.heap.size ≤ g by have := HB.size; omega) (And.intro hg2 hg4))))
        clear hsort hcm hss kk0 kk1 l0 l1 hbs hgW hB1 hg1 hg2 hg3 hg4 hg5 hg6 HB k0 k1 hm hr HEN HTR hbo
        go_wp2_with (go_at_call 28; (with_reducible refine HS.out.mono ?_); rintro e w5 ⟨rfl, D', hS, hp1, hs1⟩; have HX := Lib.hid (And.intro hS (And.intro hp1 hs1)); clear hS hp1 hs1)
        go_ret
        obtain ⟨⟨cc, hmm, ⟨cu, h1, h2⟩, _⟩, hp1, hs1⟩ := HX.out
        obtain ⟨a1, a2, a3, a4, a5⟩ := HBB.out
        exact ⟨below_one (below_call a1 a2) hmm a3, _, D', rfl, ⟨_, _, rfl, a4, fun _ => ⟨g, cu, rfl, a3, h1, h2⟩⟩, hp1, hs1⟩
      · obtain ⟨rfl, rfl⟩ := HZE.out (by omega)
        obtain rfl : i = 0 := by omega
        have HBB := Lib.hid (And.intro HB (hm.toBelow (fun k _ => by simp)))
        clear hm hr k0 k1 HB
        go_wp2_with (go_at_call 28; (with_reducible refine (sort_nil _ _).mono ?_); rintro e w5 ⟨rfl, rfl⟩)
        go_ret
        exact ⟨below_call HBB.out.1 HBB.out.2, _, fun k => k, rfl, ⟨_, _, rfl, Nat.le_refl _, fun h => by omega⟩, Pm.refl _ _ _, Sd.nil _ _ _⟩

set_option maxHeartbeats 2000000 in
theorem c_places2 (w : World) (v : Value) (n : Nat) (E : Nat → En) (hE : Ents w v n E) (hn : n ≤ 1000) (tr : ∀ x y z, RR (fun x y => (E x).dem (E y)) x y → RR (fun x y => (E x).dem (E y)) y z → RR (fun x y => (E x).dem (E y)) x z) :
    Calls Try.prog 20 #[v, .func (.func 21) #[] #[]] w fun e w' => Below w.heap.size w w' ∧ ∃ v' D, e = .returned v' ∧ Ints w' w.heap.size v' n D ∧ Pm 0 n (fun k => k) D ∧ Sd (RR (fun x y => (E x).dem (E y))) 0 n D := by
  obtain ⟨i0, hi, hz0, hz1, hz2⟩ := info_parts Try.info3
  obtain ⟨p, cp, rfl, hent⟩ := hE
  have HEN := Lib.hid hent; clear hent
  have HTR := Lib.hid tr; clear tr
  go_enter Try.func20, Try.ntmps20
  go_upto_region 1 with fail
  refine Ph.at_world ?_; intro W1 hW
  have k0 : hp W1 w.heap.size = some (.cells #[.slice p n cp] 22 (0, 0)) := by rw [hW]; simp [hpA]
  have k1 : hp W1 (w.heap.size + 1) = some (.cells #[.func (.func 21) #[] #[]] 42 (0, 0)) := by rw [hW]; simp [hpA]
  have HB : Below w.heap.size w W1 := by rw [hW]; exact below_alloc (below_alloc (Below.refl _ _) _) _
  clear hW
  have c0 := hp_cell k0
  go_wp2
  clear c0
  go_loopw [5, 9] (PlInv W1 n) (fun _ y _ => n - (intOf y).toNat)
  case atStart => exact ⟨0, none, 0, fun _ => 0, rfl, rfl, Nat.zero_le _, Mv.refl, ⟨⟨rfl, .inl ⟨rfl, rfl⟩⟩, fun g hg => by simp [Value.ownBlock] at hg⟩, fun _ => ⟨rfl, rfl⟩⟩
  case round =>
    obtain ⟨i, q, cq, c, rfl, rfl, hi1, hm, hr, hz⟩ := hrel
    have HZE := Lib.hid hz; clear hz
    by_cases hlt : i < n
    · have b1 : (i : Int) < (n : Int) := by omega
      have w1 : IntKind.i64.wrap ((i : Int) + 1) = (i : Int) + 1 := IntWalk.i64_in _ (by omega)
      have hr2 := hr.kept (Mv.of_below (S := []) (below_alloc (Below.refl wr.heap.size wr) (.cells #[.int .i64 (i : Int)] 3 (0, 0)))) (by simp)
      have hm2 := hm.after_below (below_alloc (Below.refl wr.heap.size wr) (.cells #[.int .i64 (i : Int)] 3 (0, 0)))
      have HR := Lib.hid (And.intro hr2 hm2)
      clear hr hm hr2 hm2
      have HZ := Lib.hid (And.intro hi (And.intro hz0 (And.intro hz1 hz2)))
      have HK := Lib.hid (And.intro k0 (And.intro k1 HB))
      clear hz0 hz1 hz2 hi k0 k1 HB
      go_wp2_with (at_builtin; refine wpList_append_col rfl (.tmp 12) (.tmp 14) 33 rfl 3 i0 (.int .i64 0) 1 8 Try.underlying33 HZ.out.1 HZ.out.2.1 HZ.out.2.2.1 HZ.out.2.2.2 rfl (by decide) _ i (ints i) rfl HR.out.1 ⟨wr.heap.size, 0, none⟩ 1 1 [.int .i64 (i : Int)] rfl rfl (one_cell wr _ _) (by simp [Value.oneCell']) ?c3 ?c4 ?k)
      case c3 => unfold maxLen; omega
      case c4 => omega
      case k =>
        intro p' c' w1 hr1 hC hg
        go_wp2
        go_roundw
        case rel => exact ⟨i + 1, p', c', _, rfl, by go_num, by omega, HR.out.2.trans hC.mv, by rw [ints_succ]; exact hr1, fun h => by omega⟩
        case measure => simp [intOf]; omega
    · have hin : i = n := by omega
      subst hin
      have b1 : ¬ ((i : Int) < (i : Int)) := by omega
      by_cases hpos : 0 < i
      · obtain ⟨g, cg, cur, e1, hg1, hg2, hg3, hg4, hg5, hg6⟩ := hr.pos hpos
        simp only [Value.slice.injEq, true_and] at e1
        obtain ⟨rfl, rfl⟩ := e1
        have hB1 : Below W1.heap.size W1 wr := hm.toBelow (fun k _ => by simp)
        have hgW : W1.heap.size ≤ g := by
          rcases Nat.lt_or_ge g W1.heap.size with h | h
          · have := hm.col g h; rw [hg6] at this; cases this
          · exact h
        have kk0 := hp_below hB1 k0
        have kk1 := hp_below hB1 k1
        have l0 := hp_lt k0; have l1 := hp_lt k1
        obtain ⟨b, o, hbo, hbs, _⟩ := HEN.out 0 hpos
        have hss : SS wr (fun k => if k = g then 1 else 0) g i (fun k => k) wr := ⟨_, Mv.refl, ⟨cur, hg1, fun k hk => by
          have := ints_get hk
          rw [← hg5, List.getElem?_take, if_pos (by omega)] at this
          simpa using this⟩, by simp⟩
        have hcm : CmpOk wr (fun k => if k = g then 1 else 0) i (.pointer (some ⟨w.heap.size + 1, 0, none⟩)) (.pointer (some ⟨w.heap.size, 0, none⟩)) (fun x y => (E x).dem (E y)) := by
          intro W' c' hm' x y hx hy
          have z0 := hp_mv kk0 hm' (by simp; omega)
          have z1 := hp_mv kk1 hm' (by simp; omega)
          have hB2 : Below w.heap.size w wr := below_call HB hB1
          have hbg : b ≠ g := by have := HB.size; omega
          have hh : W'.heap[b]? = w.heap[b]? := by
            rw [hm'.block b (by have := hB2.size; omega) (by simp; exact hbg)]; exact hB2.block b hbs
          obtain ⟨b', o', e', _, hx'⟩ := HEN.out x hx
          obtain ⟨b2, o2, e2, _, hy'⟩ := HEN.out y hy
          rw [hbo] at e' e2
          simp only [Option.some.injEq, Addr.mk.injEq, and_true] at e' e2
          obtain ⟨rfl, rfl⟩ := e'
          obtain ⟨rfl, rfl⟩ := e2
          rw [hbo] at z0
          exact pl_dem W' (w.heap.size + 1) w.heap.size i cp b o x y (E x) (E y) z1 z0 hx hy hn (by have := hm'.size; have := hB2.size; omega) (hx'.of hh) (hy'.of hh)
        have hsort := st_sort wr (fun k => if k = g then 1 else 0) g i cq _ _ _ hn HTR.out hcm wr (fun k => k) hss (fun _ _ => rfl)
        have HS := Lib.hid hsort
        have HBB := Lib.hid (And.intro HB (And.intro hB1 (And.intro (show w.heap.size ≤ g by have := HB.size; omega) (And.intro hg2 hg4))))
        clear hsort hcm hss kk0 kk1 l0 l1 hbs hgW hB1 hg1 hg2 hg3 hg4 hg5 hg6 HB k0 k1 hm hr HEN HTR hbo
        go_wp2_with (go_at_call 28; (with_reducible refine HS.out.mono ?_); rintro e w5 ⟨rfl, D', hS, hp1, hs1⟩; have HX := Lib.hid (And.intro hS (And.intro hp1 hs1)); clear hS hp1 hs1)
        go_ret
        obtain ⟨⟨cc, hmm, ⟨cu, h1, h2⟩, _⟩, hp1, hs1⟩ := HX.out
        obtain ⟨a1, a2, a3, a4, a5⟩ := HBB.out
        exact ⟨below_one (below_call a1 a2) hmm a3, _, D', rfl, ⟨_, _, rfl, a4, fun _ => ⟨g, cu, rfl, a3, h1, h2⟩⟩, hp1, hs1⟩
      · obtain ⟨rfl, rfl⟩ := HZE.out (by omega)
        obtain rfl : i = 0 := by omega
        have HBB := Lib.hid (And.intro HB (hm.toBelow (fun k _ => by simp)))
        clear hm hr k0 k1 HB
        go_wp2_with (go_at_call 28; (with_reducible refine (sort_nil _ _).mono ?_); rintro e w5 ⟨rfl, rfl⟩)
        go_ret
        exact ⟨below_call HBB.out.1 HBB.out.2, _, fun k => k, rfl, ⟨_, _, rfl, Nat.le_refl _, fun h => by omega⟩, Pm.refl _ _ _, Sd.nil _ _ _⟩
end Go.Proofs.Ytficncmomgddpaa
