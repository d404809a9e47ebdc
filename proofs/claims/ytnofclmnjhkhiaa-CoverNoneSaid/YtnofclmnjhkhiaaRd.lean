/- The reference's cover in memory. -/
import Derived.Test.YtnofclmnjhkhiaaRb4
import Derived.Test.YtnofclmnjhkhiaaCd
import Derived.WalkKit
import Derived.WalkLawsBesides
import Derived.WalkSpells
import Derived.Below
import Derived.Deep.RegionHeld3
import Derived.Deep.QuietTactic
import Derived.BigQuiet
import Derived.Deep.DeepCutAuto
import Derived.Deep.DeepMust
import Derived.KernelRfl
import Derived.Lib.Hide
import Derived.Outline
import Derived.RegionTactic
import Derived.StillTailTactics
namespace Go.Proofs.Ytnofclmnjhkhiaa
open Go.RowKit Go.Cl Go.Cv
set_option maxRecDepth 100000
set_option linter.unusedVariables false
set_option linter.unusedSimpArgs false

theorem Try.info53 : (Try.prog.info? 53).map (fun i => (i.zero, i.size, i.bytes)) = some (some (.agg #[.int .i64 0, .int .i64 0]), 2, 16) := by kernel_rfl
theorem one_srcq {w : World} {b : Nat} {s : Sp} {t : TypeId} (h : hp w b = some (.cells #[.int .i64 s.1, .int .i64 s.2] t (0, 0))) : ∀ j u, (encS s)[j]? = some u → w.cell? ((⟨b, 0, none⟩ : Addr).add j) = some u := by
  intro j u hj
  rw [Addr.add_lit, hp_cell h]
  match j, hj with
  | 0, hj => simpa [encS] using hj
  | 1, hj => simpa [encS] using hj
  | j + 2, hj => simp [encS] at hj
/-- The reference's cover. -/
structure RvO (col : Nat → Nat) (i : Nat) (w : World) (b : Nat) (L : List Sp) : Prop where
  ex : ∃ v, Blk col i w b #[v] 38 ∧ Row col i w 53 2 v L.length (L.flatMap encS)
theorem row_rdq {col : Nat → Nat} {i : Nat} {w : World} {v : Value} {L : List Sp} {t : TypeId} (h : Row col i w t 2 v L.length (L.flatMap encS)) : RdL w v L := by
  obtain ⟨p, cp, rfl⟩ := h.form
  refine ⟨p, cp, rfl, fun k a ha => ?_⟩
  obtain ⟨hk, hka⟩ := List.getElem?_eq_some_iff.1 ha
  obtain ⟨g, c, cur, e1, _⟩ := h.pos (by omega)
  simp only [Value.slice.injEq, true_and] at e1
  obtain ⟨rfl, rfl⟩ := e1
  have e0 := encS_ok.get L k 0 hk (by omega)
  have e2 := encS_ok.get L k 1 hk (by omega)
  rw [hka] at e0 e2
  exact ⟨g, 0, rfl, by rw [Nat.zero_add]; exact h.cell rfl e0, by rw [Nat.zero_add]; exact h.cell rfl e2⟩
section
variable {col : Nat → Nat} {i : Nat} {w w' : World} {b : Nat} {L : List Sp}
theorem RvO.rd (h : RvO col i w b L) : CvR w b L := by
  obtain ⟨v, hb, hr⟩ := h.ex
  exact ⟨v, by rw [hp_cell hb.hp]; rfl, row_rdq hr⟩
theorem RvO.kept {col' : Nat → Nat} {S : List Nat} (h : RvO col i w b L) (hm : Mv S col w col' w') (hi : i ∉ S) : RvO col' i w' b L := by
  obtain ⟨v, hb, hr⟩ := h.ex
  exact ⟨v, ⟨hp_mv hb.hp hm (by rw [hb.col]; exact hi), (hm.col b (hp_lt hb.hp)).trans hb.col⟩, hr.kept hm hi⟩
theorem RvO.below (h : RvO col i w b L) (hb : Below w.heap.size w w') : RvO col i w' b L := h.kept (Mv.of_below (S := []) hb) (by simp)
end
/-- As LR, of the reference's spans. -/
def LQ (w0 : World) (A : Nat → Prop) (v : Value) (M : List Sp) (wr : World) : Prop := Row (own v) 1 wr 53 2 v M.length (M.flatMap encS) ∧ ∀ g, v.ownBlock = some g → w0.heap.size ≤ g ∧ ¬ A g
section
variable {w0 wr W : World} {A : Nat → Prop} {v : Value} {M : List Sp}
theorem LQ.nil : LQ w0 A (.slice none 0 0) [] wr := ⟨Row.nil', fun g h => by simp [Value.ownBlock] at h⟩
theorem LQ.below (h : LQ w0 A v M wr) (hb : Below wr.heap.size wr W) : LQ w0 A v M W := ⟨h.1.kept (Mv.of_below (S := []) hb) (by simp), h.2⟩
theorem LQ.to {B : Nat → Prop} (h : LQ w0 A v M wr) (hB : ∀ g, g < wr.heap.size → B g → A g) : LQ w0 B v M wr :=
  ⟨h.1, fun g hg => ⟨(h.2 g hg).1, fun hb => (h.2 g hg).2 (hB g (h.1.lt hg) hb)⟩⟩
theorem LQ.grow (h : LQ w0 A v M wr) (h0 : w0.heap.size ≤ wr.heap.size) (hA : ∀ q, A q → q < wr.heap.size) {v' : Value} {M' : List Sp} (hr : Row (paint (own v) wr 1) 1 W 53 2 v' M'.length (M'.flatMap encS)) : LQ w0 A v' M' W := by
  refine ⟨hr.recol fun g hg => if_pos hg, fun g hg => ?_⟩
  have e := hr.col g hg
  rcases Nat.lt_or_ge g wr.heap.size with h1 | h1
  · rw [paint_old h1] at e
    unfold own at e
    split at e
    · rename_i hv; exact h.2 g hv
    · cases e
  · exact ⟨Nat.le_trans h0 h1, fun ha => by have := hA g ha; omega⟩
theorem LQ.grown (h : LQ w0 A v M wr) (hg : wr.grownBy W v.ownBlock) (hB : Below w0.heap.size w0 wr) : Below w0.heap.size w0 W :=
  ⟨hg.os.trans hB.os, hg.tape.trans hB.tape, hg.output.trans hB.output, Nat.le_trans hB.size hg.size, fun k hk => (hg.block k (Nat.lt_of_lt_of_le hk hB.size) (fun e => by have := (h.2 k e.symm).1; omega)).trans (hB.block k hk)⟩
theorem LQ.hp (h : LQ w0 A v M wr) (hg : wr.grownBy W v.ownBlock) {q : Nat} {x : Obj} (hx : hp wr q = some x) (hq : A q) : hp W q = some x :=
  hp_grown hx hg (fun e => (h.2 q e.symm).2 hq)
/-- Another list's growth leaves this one as it was. -/
theorem LQ.beside (h : LQ w0 A v M wr) {row : Option Nat} (hg : wr.grownBy W row) (hne : ∀ g, v.ownBlock = some g → row ≠ some g) : LQ w0 A v M W :=
  ⟨h.1.kept (S := [0]) (col' := own v) ⟨hg.os, hg.tape, hg.output, hg.size, fun k hk hc => hg.block k hk (fun e => by
    unfold own at hc
    split at hc
    · rename_i hv; exact hne k hv e.symm
    · exact hc (by simp)), fun _ _ => rfl⟩ (by decide), h.2⟩
end
/-- What the reference makes of one span. -/
def lq (s x : Sp) : Sp := if s.1 < s.2 then (if x.1 < s.1 then (x.1, min x.2 s.1) else (0, 0)) else x
def rq (s x : Sp) : Sp := if s.1 < s.2 then (if s.2 < x.2 then (max x.1 s.2, x.2) else (0, 0)) else (0, 0)
theorem c_rcutC (x s : Sp) (hx : x.1 < x.2) (w : World) : Calls Try.prog 58 #[.agg #[.int .i64 x.1, .int .i64 x.2], .agg #[.int .i64 s.1, .int .i64 s.2]] w fun e w' => e = .returned (.tuple #[.agg #[.int .i64 (lq s x).1, .int .i64 (lq s x).2], .agg #[.int .i64 (rq s x).1, .int .i64 (rq s x).2]]) ∧ Below w.heap.size w w' := by
  unfold lq rq
  by_cases h : s.1 < s.2
  · rw [if_pos h, if_pos h]; exact c_rcut x.1 x.2 s.1 s.2 hx h w
  · rw [if_neg h, if_neg h]; exact c_rcut0 x.1 x.2 s.1 s.2 hx (by omega) w
theorem cutC_take (s : Sp) (L : List Sp) (hw : Wf L) (k : Nat) (x : Sp) (h : L[k]? = some x) : cutC (L.take (k + 1)) s = cutC (L.take k) s ++ pz (lq s x) (rq s x) 2 := by
  have hx := hw.get h
  have z00 : ¬ ((0, 0) : Sp).1 < ((0, 0) : Sp).2 := by decide
  unfold cutC
  by_cases hs : s.2 ≤ s.1
  · have el : lq s x = x := if_neg (by omega)
    have er : rq s x = (0, 0) := if_neg (by omega)
    rw [if_pos hs, if_pos hs, el, er, List.take_add_one, h, pz_2, pz_1, if_pos hx, if_neg z00]
    simp
  · have hs' : s.1 < s.2 := by omega
    rw [if_neg hs, if_neg hs, cut_take s L k x h]
    congr 1
    unfold pcs
    rw [pz_2, pz_1]
    by_cases q1 : x.1 < s.1
    · have el : lq s x = (x.1, min x.2 s.1) := by unfold lq; rw [if_pos hs', if_pos q1]
      rw [el, if_pos (show x.1 < min x.2 s.1 by omega)]
      by_cases q2 : s.2 < x.2
      · have er : rq s x = (max x.1 s.2, x.2) := by unfold rq; rw [if_pos hs', if_pos q2]
        rw [er, if_pos (show max x.1 s.2 < x.2 by omega)]
      · have er : rq s x = (0, 0) := by unfold rq; rw [if_pos hs', if_neg q2]
        rw [er, if_neg (show ¬ max x.1 s.2 < x.2 by omega)]; first | done | rw [if_neg z00]
    · have el : lq s x = (0, 0) := by unfold lq; rw [if_pos hs', if_neg q1]
      rw [el, if_neg (show ¬ x.1 < min x.2 s.1 by omega), if_neg z00]
      by_cases q2 : s.2 < x.2
      · have er : rq s x = (max x.1 s.2, x.2) := by unfold rq; rw [if_pos hs', if_pos q2]
        rw [er, if_pos (show max x.1 s.2 < x.2 by omega)]
      · have er : rq s x = (0, 0) := by unfold rq; rw [if_pos hs', if_neg q2]
        rw [er, if_neg (show ¬ max x.1 s.2 < x.2 by omega)]; first | done | rw [if_neg z00]
end Go.Proofs.Ytnofclmnjhkhiaa
