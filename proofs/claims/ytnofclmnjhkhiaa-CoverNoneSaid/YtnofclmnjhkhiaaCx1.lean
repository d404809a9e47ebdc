/- Meet: what a round finds and leaves. -/
import Derived.Test.YtnofclmnjhkhiaaCx0
import Derived.RangeFuncNested
import Derived.RangeFuncBound
import Derived.RangeFuncCalls
import Derived.RangeFuncLeaves
import Derived.Shelf.Abstract
import Derived.Shelf.RegionOpen
import Derived.OwnWalkIn
import Derived.TacticsInMore
import Derived.LoopNIn
import Derived.LoopIn
import Derived.Sort.CutIn
import Derived.Maps.AppendAt
import Derived.WalkKit
import Derived.WalkLawsBesides
import Derived.WalkSpells
import Derived.Below
import Derived.Deep.RegionHeld3
import Derived.Deep.QuietTactic
import Derived.BigQuiet
import Derived.Deep.DeepCutAuto
import Derived.Deep.DeepMust
import Derived.KernelRfl
import Derived.Lib.Hide
import Derived.Outline
import Derived.RegionTactic
import Derived.StillTailTactics
namespace Go.Proofs.Ytnofclmnjhkhiaa
open Go.RowKit Go.Cl Go.Cv
set_option maxRecDepth 100000
set_option linter.unusedVariables false
set_option linter.unusedSimpArgs false
open Go.Shelf
attribute [local go_sem] Oper.semAt_some

attribute [local go_sem] max2_int min2_int max_two min_two
/-- A cover's pointer, nil too; its list's room. -/
def CvF (w : World) (pv : Option Addr) (L : List Sp) : Prop := (pv = none ∧ L = []) ∨ ∃ b p cp, pv = some ⟨b, 0, none⟩ ∧ w.cell? ⟨b, 0, none⟩ = some (.slice p L.length cp) ∧ RdL w (.slice p L.length cp) L ∧ L.length ≤ cp
theorem CvF.n {w : World} {pv : Option Addr} {L : List Sp} (h : CvF w pv L) : CvN w pv L := by
  rcases h with h | ⟨b, p, cp, h1, h2, h3, _⟩
  · exact .inl h
  · exact .inr ⟨b, h1, _, h2, h3⟩
theorem CvO.f {c : Nat → Nat} {i : Nat} {w : World} {b : Nat} {L : List Sp} (h : CvO c i w b L) : CvF w (some ⟨b, 0, none⟩) L := by
  obtain ⟨v, h1, h2⟩ := h.ex
  obtain ⟨p, cp, rfl⟩ := h2.form
  refine .inr ⟨b, p, cp, rfl, by rw [hp_cell h1.hp]; rfl, row_rdl h2, ?_⟩
  rcases h2.own.2 with ⟨e, e2⟩ | ⟨g, cap, cur, e, _, _, h3, _⟩
  · omega
  · simp only [Value.slice.injEq, true_and] at e; rw [e.2]; exact h3
theorem c_spansF {w : World} {pv : Option Addr} {L : List Sp} (h : CvF w pv L) : ∃ p cp, RdL w (.slice p L.length cp) L ∧ L.length ≤ cp ∧ ∀ W, Below w.heap.size w W → Calls Try.prog 37 #[.pointer pv] W fun e w' => e = .returned (.slice p L.length cp) ∧ W = w' := by
  rcases h with ⟨rfl, rfl⟩ | ⟨b, p, cp, rfl, h1, h2, h3⟩
  · refine ⟨none, 0, ⟨none, 0, rfl, fun k a h => by simp at h⟩, Nat.le_refl _, fun W _ => ?_⟩
    go_enter Try.func37, Try.ntmps37
    go_wp2
    go_ret
    exact ⟨rfl, rfl⟩
  · exact ⟨p, cp, h2, h3, fun W hb => c_spans W b p L.length cp (cell_below hb h1)⟩
theorem rdl_drop {w : World} {g o n c c' : Nat} {L : List Sp} (h : RdL w (.slice (some ⟨g, o, none⟩) n c) L) (k : Nat) : RdL w (.slice (some ⟨g, o + k * 2, none⟩) (L.drop k).length c') (L.drop k) := by
  refine ⟨_, _, rfl, fun j a ha => ?_⟩
  rw [List.getElem?_drop] at ha
  obtain ⟨b, f, e, h1, h2⟩ := h.at ha
  simp only [Option.some.injEq, Addr.mk.injEq, and_true] at e
  obtain ⟨rfl, rfl⟩ := e
  exact ⟨g, o + k * 2, rfl, by rw [show o + k * 2 + j * 2 = o + (k + j) * 2 by omega]; exact h1, by rw [show o + k * 2 + j * 2 + 1 = o + (k + j) * 2 + 1 by omega]; exact h2⟩
theorem rdl_sub {w : World} {p : Option Addr} {n c c' k m : Nat} {L : List Sp} (h : RdL w (.slice p n c) L) (hnc : n ≤ c) (hm : (L.drop k).length = m) : RdL w (.slice (if c = k then p else Option.map (fun x => x.add (k * 2)) p) m c') (L.drop k) := by
  refine ⟨_, _, by rw [← hm], fun j a ha => ?_⟩
  have hj := ha
  rw [List.getElem?_drop] at ha
  obtain ⟨b, f, e, h1, h2⟩ := h.at ha
  have hl : k + j < L.length := (List.getElem?_eq_some_iff.1 ha).1
  obtain ⟨_, _, e2, _⟩ := h
  simp only [Value.slice.injEq] at e2
  have hn : n = L.length := e2.2.1
  subst e
  refine ⟨b, f + k * 2, ?_, by rw [show f + k * 2 + j * 2 = f + (k + j) * 2 by omega]; exact h1, by rw [show f + k * 2 + j * 2 + 1 = f + (k + j) * 2 + 1 by omega]; exact h2⟩
  rw [if_neg (by omega)]
  simp [Addr.add_lit]
/-- What a round of Meet finds and leaves. -/
def IM (B out x3 x5 : Nat) (po : Option Addr) (Bl : List Sp) (N : Nat) (w : World) (pre : List Sp) (W : World) : Prop :=
  (∃ v, Boxed W out 60 v ∧ W.ownsRow B 30 2 v (MP Bl pre).length ((MP Bl pre).flatMap encS) ∧ B ≤ out) ∧ Boxed W x3 24 (.pointer po) ∧ Boxed W x5 24 (.pointer (some ⟨out, 0, none⟩)) ∧ N ≤ W.heap.size ∧ Below B w W
theorem iM_own {out x3 x5 : Nat} {po : Option Addr} {Bl : List Sp} {N M : Nat} {w : World} (hM : w.heap.size ≤ M) : OwnFrom M (IM w.heap.size out x3 x5 po Bl N w) :=
  OwnFrom.and (Own.from (holdsRow_own w.heap.size out 60 30 2 (fun (pre : List Sp) => (MP Bl pre).length) (fun (pre : List Sp) => (MP Bl pre).flatMap encS) (fun _ _ => w.heap.size ≤ out)) _)
    (OwnFrom.and (Own.from (boxed_own _ _ (fun _ => .pointer po)) _) (OwnFrom.and (Own.from (boxed_own _ _ (fun _ => .pointer (some ⟨out, 0, none⟩))) _) (OwnFrom.and (size_own _ _) (ownFrom_below (Nat.le_refl _) hM))))
theorem box_keep {W W' : World} {b base q n : Nat} {v u : Value} {t : TypeId} {xs : List Value} (hb : Boxed W b 60 v) (hr : W.ownsRow base 30 2 v n xs) (hk : ∀ q x, hp W q = some x → q ≠ b → v.ownBlock ≠ some q → hp W' q = some x) (hq : Boxed W q t u) (h60 : t ≠ 60) (h30 : t ≠ 30) : Boxed W' q t u := by
  refine hk q _ hq (fun e => ?_) (fun e => ?_)
  · subst e
    have : some (Obj.cells #[v] 60 (0, 0)) = some (Obj.cells #[u] t (0, 0)) := hb.symm.trans hq
    simp at this; exact h60 this.2.symm
  · obtain ⟨_, _, cur, h2⟩ := own_lt hr e
    have : some (Obj.cells cur 30 (0, 0)) = some (Obj.cells #[u] t (0, 0)) := h2.symm.trans hq
    simp at this; exact h30 this.2.symm
theorem box_below {W W' : World} {q : Nat} {t : TypeId} {u : Value} (h : Boxed W q t u) (hb : Below W.heap.size W W') : Boxed W' q t u := hp_below hb h
theorem keeps_below {W W' : World} (h : Below W.heap.size W W') : KeepsOthers W W' := ⟨h.size, fun k o hk _ => (h.block k (Array.getElem?_eq_some_iff.1 hk).1).trans hk⟩
theorem mv_base {S : List Nat} {w w' : World} {c : Nat → Nat} {g i : Nat} (hm : Mv S zc w c w') (hc : c g = i) (hi : i ≠ 0) : w.heap.size ≤ g := by
  rcases Nat.lt_or_ge g w.heap.size with h | h
  · exact absurd ((hm.col g h).symm.trans hc) (by simpa [zc] using hi.symm)
  · exact h
theorem row_base {S : List Nat} {w w' : World} {c : Nat → Nat} {i e s n : Nat} {v : Value} {xs : List Value} (h : Row c i w' e s v n xs) (hm : Mv S zc w c w') (hi : i ≠ 0) : w'.ownsRow w.heap.size e s v n xs := by
  refine ⟨h.own.1, ?_⟩
  rcases h.own.2 with h1 | ⟨g, cap, cur, e1, _, h3⟩
  · exact .inl h1
  · exact .inr ⟨g, cap, cur, e1, mv_base hm (h.col g (by rw [e1]; rfl)) hi, h3⟩
/-- The inner loop's world. -/
def RO (B out x3 x5 n1 : Nat) (po : Option Addr) (w W : World) (O : List Sp) (wr : World) : Prop :=
  (∃ v, Boxed wr out 60 v ∧ wr.ownsRow B 30 2 v O.length (O.flatMap encS)) ∧ Boxed wr x3 24 (.pointer po) ∧ Boxed wr x5 24 (.pointer (some ⟨out, 0, none⟩)) ∧ KpH n1 out W wr ∧ KeepsOthers W wr ∧ Below B w wr
theorem RO.below {out x3 x5 n1 : Nat} {po : Option Addr} {w W wr W' : World} {O : List Sp} (h : RO w.heap.size out x3 x5 n1 po w W O wr) (hb : Below wr.heap.size wr W') : RO w.heap.size out x3 x5 n1 po w W O W' := by
  obtain ⟨⟨v, h1, h2⟩, h3, h4, h5, h6, h7⟩ := h
  exact ⟨⟨v, box_below h1 hb, row_keep h2 (fun g x _ hg => hp_below hb hg)⟩, box_below h3 hb, box_below h4 hb, kpH_t h5 (kpH_below h1.lt hb), h6.trans (keeps_below hb), below_call h7 hb⟩
theorem RO.step {out x3 x5 n1 : Nat} {po : Option Addr} {w W wr W' : World} {O O' : List Sp} {v : Value} (h : RO w.heap.size out x3 x5 n1 po w W O wr) (hb : Boxed wr out 60 v) (hr : wr.ownsRow w.heap.size 30 2 v O.length (O.flatMap encS)) (hbb : w.heap.size ≤ out)
    (hch : Ch (hub out v) 1 wr W') (hcv : CvO (paint (hub out v) wr 1) 1 W' out O') : RO w.heap.size out x3 x5 n1 po w W O' W' := by
  obtain ⟨_, h3, h4, h5, h6, h7⟩ := h
  obtain ⟨r1, r2, r3, r4, r5⟩ := hub_round (n1 := n1) hb hr hch hcv hbb h7.size
  exact ⟨r3, box_keep hb hr r4 h3 (by decide) (by decide), box_keep hb hr r4 h4 (by decide) (by decide), kpH_t h5 r1, h6.trans r2, h7.trans r5⟩
end Go.Proofs.Ytnofclmnjhkhiaa
