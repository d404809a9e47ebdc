/- Recent: what a ring of marks is in memory. -/
import Derived.Test.YtgacbfbjikjanaaProg
import Derived.Test.YtgacbfbjikjanaaCol
import Derived.Test.YtgacbfbjikjanaaPh
import Derived.WalkKit
import Derived.WalkLawsBesides
import Derived.WalkSpells
import Derived.Below
import Derived.Deep.RegionHeld3
import Derived.Deep.QuietTactic
import Derived.BigQuiet
import Derived.Deep.DeepCutAuto
import Derived.Deep.DeepMust
import Derived.KernelRfl
import Derived.Lib.Hide
import Derived.Outline
import Derived.RegionTactic
import Derived.StillTailTactics
namespace Go.Proofs.Ytgacbfbjikjanaa
open Go.RowKit Go.Cl
set_option maxRecDepth 100000
set_option linter.unusedVariables false
set_option linter.unusedSimpArgs false


abbrev Mk := Int × ByteArray
def encM (x : Mk) : List Value := [.int .i64 x.1, .string x.2]
theorem encM_ok : Enc Mk encM 2 := ⟨fun _ => rfl, fun _ u hu => by simp [encM] at hu; rcases hu with rfl | rfl <;> rfl⟩
/-- The program's ring. -/
structure Rec (col : Nat → Nat) (i : Nat) (w : World) (b : Nat) (L : List Mk) (R : Nat) (since last : Int) : Prop where
  ex : ∃ (v : Value) (X : List Mk) (F : Nat), Blk col i w b #[v, .int .i64 (F : Nat), .int .i64 (L.length : Nat), .int .i64 since, .int .i64 last] 94 ∧ Row col i w 82 2 v R (X.flatMap encM) ∧ X.length = R ∧ (0 < R → F < R) ∧ (R = 0 → F = 0) ∧
    ∀ k, k < L.length → X[(F + k) % R]? = L[k]?
  len : L.length ≤ R
  cap : R ≤ 1024
/-- The reference's list. -/
structure Ref (col : Nat → Nat) (i : Nat) (w : World) (b : Nat) (L : List Mk) (R : Nat) (since last : Int) : Prop where
  ex : ∃ (v : Value), Blk col i w b #[v, .int .i64 (R : Nat), .int .i64 since, .int .i64 last] 65 ∧ Row col i w 82 2 v L.length (L.flatMap encM)
  len : L.length ≤ R
  cap : R ≤ 1024
section
variable {col col' : Nat → Nat} {i : Nat} {w w' : World} {b : Nat} {L : List Mk} {R : Nat} {since last : Int}
theorem Rec.kept (h : Rec col i w b L R since last) {S : List Nat} (hm : Mv S col w col' w') (hi : i ∉ S) : Rec col' i w' b L R since last := by
  obtain ⟨⟨v, X, F, hb, hr, h1⟩, h2, h3⟩ := h
  exact ⟨⟨v, X, F, hb.kept hm hi, hr.kept hm hi, h1⟩, h2, h3⟩
theorem Ref.kept (h : Ref col i w b L R since last) {S : List Nat} (hm : Mv S col w col' w') (hi : i ∉ S) : Ref col' i w' b L R since last := by
  obtain ⟨⟨v, hb, hr⟩, h2, h3⟩ := h
  exact ⟨⟨v, hb.kept hm hi, hr.kept hm hi⟩, h2, h3⟩
theorem Rec.below (h : Rec col i w b L R since last) (hb : Below w.heap.size w w') : Rec col i w' b L R since last := h.kept (Mv.of_below (S := []) (col := col) hb) (by simp)
theorem Ref.below (h : Ref col i w b L R since last) (hb : Below w.heap.size w w') : Ref col i w' b L R since last := h.kept (Mv.of_below (S := []) (col := col) hb) (by simp)
theorem Rec.paint (h : Rec col i w b L R since last) (hb' : Below w.heap.size w w') : Rec (Cl.paint col w i) i w' b L R since last := by
  obtain ⟨⟨v, X, F, hb, hr, h1⟩, h2, h3⟩ := h
  exact ⟨⟨v, X, F, hb.below hb', hr.below hb', h1⟩, h2, h3⟩
theorem Ref.paint (h : Ref col i w b L R since last) (hb' : Below w.heap.size w w') : Ref (Cl.paint col w i) i w' b L R since last := by
  obtain ⟨⟨v, hb, hr⟩, h2, h3⟩ := h
  exact ⟨⟨v, hb.below hb', hr.below hb'⟩, h2, h3⟩
end
theorem Try.info82 : (Try.prog.info? 82).map (fun i => (i.zero, i.size, i.bytes)) = some (some (.agg #[.int .i64 0, .string ⟨#[]⟩]), 2, 24) := by kernel_rfl
theorem two_cells (w : World) (u v : Value) (t : TypeId) : ∀ j x, [u, v][j]? = some x → (w.alloc (.cells #[u, v] t)).cell? ((⟨w.heap.size, 0, none⟩ : Addr).add j) = some x := by
  intro j x hj
  match j, hj with
  | 0, hj => simp at hj; subst hj; simp [Addr.add]
  | 1, hj => simp at hj; subst hj; simp [Addr.add]
/-- What one mark turns. -/
def putM (R : Nat) (st : List Mk × Int) (m : Mk) : List Mk × Int :=
  if R < (st.1 ++ [m]).length then ((st.1 ++ [m]).tail, ((st.1 ++ [m]).headD (0, ⟨#[]⟩)).1) else (st.1 ++ [m], st.2)
theorem putM_len {R : Nat} {st : List Mk × Int} {m : Mk} (h : st.1.length ≤ R) : (putM R st m).1.length ≤ R := by
  unfold putM; split <;> simp at * <;> omega
theorem _root_.Go.Cl.Row.set2 {col : Nat → Nat} {i : Nat} {w : World} {e n g c : Nat} {X : List Mk} (h : Row col i w e 2 (.slice (some ⟨g, 0, none⟩) n c) n (X.flatMap encM)) (hX : X.length = n) (k : Nat) (hk : k < n) (m : Mk) :
    Row col i ((w.setCell ⟨g, k * 2, none⟩ (.int .i64 m.1)).setCell ⟨g, k * 2 + 1, none⟩ (.string m.2)) e 2 (.slice (some ⟨g, 0, none⟩) n c) n ((X.set k m).flatMap encM) := by
  obtain ⟨g', c', cur, hv, hg, hnc, hcm, hcs, htk, hgc⟩ := h.pos (by omega)
  simp only [Value.slice.injEq, Option.some.injEq, Addr.mk.injEq] at hv
  obtain ⟨⟨rfl, _, _⟩, _, rfl⟩ := hv
  refine Row.mk' (hp_set (hp_set hg _) _) hnc hcm (by simpa using hcs) ?_ (by rw [encM_ok.length, List.length_set, hX]) hgc
  have hlen : (X.set k m).length = n := by simpa using hX
  apply List.ext_getElem?
  intro j
  by_cases hj : j < n * 2
  · rw [List.getElem?_take, if_pos hj]
    have h1 := encM_ok.get (X.set k m) (j / 2) (j % 2) (by omega) (by omega)
    have hjj : j / 2 * 2 + j % 2 = j := by omega
    rw [hjj] at h1
    rw [h1]
    have h2 := encM_ok.get X (j / 2) (j % 2) (by omega) (by omega)
    rw [hjj, ← htk, List.getElem?_take, if_pos hj] at h2
    simp only [Array.toList_setIfInBounds, List.getElem?_set, List.getElem_set]
    by_cases hjk : k = j / 2
    · rw [if_pos hjk]
      rcases (by omega : j % 2 = 0 ∨ j % 2 = 1) with hm | hm
      · have e1 : ¬ (k * 2 + 1 = j) := by omega
        have e2 : k * 2 = j := by omega
        have e3 : k * 2 < cur.toList.length := by simp; omega
        rw [if_neg e1, if_pos e2, if_pos e3, hm]; rfl
      · have e1 : k * 2 + 1 = j := by omega
        have e3 : k * 2 + 1 < cur.toList.length := by simp; omega
        rw [if_pos e1, if_pos (by simpa using e3), hm]; rfl
    · have e1 : ¬ (k * 2 + 1 = j) := by omega
      have e2 : ¬ (k * 2 = j) := by omega
      rw [if_neg e1, if_neg e2, if_neg hjk, h2]
  · rw [List.getElem?_take, if_neg hj]
    symm
    apply List.getElem?_eq_none
    rw [encM_ok.length, hlen]; omega

end Go.Proofs.Ytgacbfbjikjanaa
