/- Recent: RecentClones: appends. -/
import Derived.Test.YtgacbfbjikjanaaRec12
import Derived.WalkKit
import Derived.WalkLawsBesides
import Derived.WalkSpells
import Derived.Below
import Derived.Deep.RegionHeld3
import Derived.Deep.QuietTactic
import Derived.BigQuiet
import Derived.Deep.DeepCutAuto
import Derived.Deep.DeepMust
import Derived.KernelRfl
import Derived.Lib.Hide
import Derived.Outline
import Derived.RegionTactic
import Derived.StillTailTactics
namespace Go.Proofs.Ytgacbfbjikjanaa
open Go.RowKit Go.Cl Go.Rdr
set_option maxRecDepth 100000
set_option linter.unusedVariables false
set_option linter.unusedSimpArgs false


theorem run_append_none {P : Program} (w : World) (t ty e : TypeId) (inf : TypeInfo) (ht : P.underlying t = some (.slice e)) (hi : P.info? e = some inf) (q : Option Addr) (n c c2 : Nat) (hnc : n ≤ c) :
    (Builtin.append_ #[t, t] ty #[.slice q n c, .slice none 0 c2]).run P w = .ok (.slice q n c) w := by
  cases q <;> simp [Builtin.append_, run_underlying ht, sizeOf, typeInfo, hi, Builtin.lenOf, Builtin.firstCells, loadCells, loadCellsFrom, hnc, storeCells]
/-- append of whatever slice onto a row of one's own. -/
theorem wpList_append_any {P : Program} {col : Nat → Nat} {i : Nat} {w : World} {ops : Array Oper} {rest : List Oper} {o : Oper} {a : Act} {Q : Exit → Act → World → Prop} (hgd : o.guard = none) (s x : Operand) (t : TypeId)
    (ho : o.op = .call { callee := .builtin .append, args := #[s, x], argTypes := #[t, t] })
    (e : TypeId) (inf : TypeInfo) (z : Value) (size bytes : Nat) (ht : P.underlying t = some (.slice e)) (hi : P.info? e = some inf) (hz : inf.zero = some z)
    (hsize : inf.size = size) (hby : inf.bytes = bytes) (hzs : z.cells.size = size) (hsz : 0 < size)
    (v : Value) (n : Nat) (xs : List Value) (hs : a.eval s = v) (hr : Row col i w e size v n xs)
    (ad : Option Addr) (m c : Nat) (news : List Value) (hx : a.eval x = .slice ad m c) (hl : news.length = m * size) (hnews : ∀ j u, news[j]? = some u → ∃ p, ad = some p ∧ w.cell? (p.add j) = some u) (h1 : ∀ u ∈ news, u.oneCell' = true)
    (h63 : n + m ≤ maxLen) (hbytes : (n + m) * bytes ≤ 140737488355328)
    (h : ∀ p c' w', Row (paint col w i) i w' e size (.slice p (n + m) c') (n + m) (xs ++ news) → Ch col i w w' → w.grownBy w' v.ownBlock → wpList P ops Q rest (a.put o.dst (.slice p (n + m) c')) w') : wpList P ops Q (o :: rest) a w := by
  cases ad with
  | some ad => exact wpList_append_col hgd s x t ho e inf z size bytes ht hi hz hsize hby hzs hsz v n xs hs hr ad m c news hx hl (fun j u hj => by obtain ⟨p, hp, hc⟩ := hnews j u hj; simp only [Option.some.injEq] at hp; rw [hp]; exact hc) h1 h63 hbytes h
  | none =>
    have hn : news = [] := by
      cases news with
      | nil => rfl
      | cons u us => obtain ⟨p, hp, _⟩ := hnews 0 u rfl; simp at hp
    subst hn
    obtain rfl : m = 0 := by
      simp only [List.length_nil] at hl
      rcases Nat.mul_eq_zero.1 hl.symm with h | h <;> omega
    obtain ⟨p, c', rfl⟩ := hr.form
    have hnc : n ≤ c' := by
      rcases hr.own.2 with ⟨h1, h2⟩ | ⟨g, c2, cur, h1, _, _, h2, _⟩
      · subst h2; omega
      · simp only [Value.slice.injEq] at h1; omega
    refine wpList_plain hgd fun K hK => ?_
    have hrun := run_append_none (P := P) w t o.type e inf ht hi p n c' c hnc
    unfold Oper.wp execOp
    simp only [ho, resolve, invoke, builtin, Sem.run_bind, Sem.run_pure, Result.andThen_ok, List.map_toArray, List.map_cons, List.map_nil, hs, hx, hrun]
    refine hK _ _ (h p c' w ?_ Ch.refl ⟨rfl, rfl, rfl, Nat.le_refl _, fun _ _ _ => rfl⟩)
    rw [List.append_nil]
    exact hr.below (Below.refl _ _)
/-- append of whatever slice onto a row of one's own: what it comes to. -/
theorem gives_append_any {P : Program} {col : Nat → Nat} {i : Nat} {w : World} {o : Oper} {a : Act} {R : Value → World → Prop} (s x : Operand) (t : TypeId)
    (ho : o.op = .call { callee := .builtin .append, args := #[s, x], argTypes := #[t, t] })
    (e : TypeId) (inf : TypeInfo) (z : Value) (size bytes : Nat) (ht : P.underlying t = some (.slice e)) (hi : P.info? e = some inf) (hz : inf.zero = some z)
    (hsize : inf.size = size) (hby : inf.bytes = bytes) (hzs : z.cells.size = size) (hsz : 0 < size)
    (v : Value) (n : Nat) (xs : List Value) (hs : a.eval s = v) (hr : Row col i w e size v n xs)
    (ad : Option Addr) (m c : Nat) (news : List Value) (hx : a.eval x = .slice ad m c) (hl : news.length = m * size) (hnews : ∀ j u, news[j]? = some u → ∃ p, ad = some p ∧ w.cell? (p.add j) = some u) (h1 : ∀ u ∈ news, u.oneCell' = true)
    (h63 : n + m ≤ maxLen) (hbytes : (n + m) * bytes ≤ 140737488355328)
    (h : ∀ p c' w', Row (paint col w i) i w' e size (.slice p (n + m) c') (n + m) (xs ++ news) → Ch col i w w' → w.grownBy w' v.ownBlock → R (.slice p (n + m) c') w') : Ph.gives P o a w R := by
  cases ad with
  | some ad =>
    have hnews' : ∀ j u, news[j]? = some u → w.cell? (ad.add j) = some u := fun j u hj => by obtain ⟨p, hp, hc⟩ := hnews j u hj; simp only [Option.some.injEq] at hp; rw [hp]; exact hc
    obtain ⟨v', w', hrun, h2, h3⟩ := run_append_col (P := P) (col := col) (i := i) w t o.type e inf z size bytes ht hi hz hsize hby hzs hsz v n xs hr ad m c news hl hnews' h1 h63 hbytes
    unfold Ph.gives execOp
    simp only [ho, resolve, invoke, builtin, Sem.run_bind, Sem.run_pure, Result.andThen_ok, List.map_toArray, List.map_cons, List.map_nil, hs, hx, hrun]
    obtain ⟨p, c', rfl⟩ := h2.form
    exact h p c' w' h2 (Ch.refl.grown h3 (fun k hk => paint_of (hr.col k hk))) h3
  | none =>
    have hn : news = [] := by
      cases news with
      | nil => rfl
      | cons u us => obtain ⟨p, hp, _⟩ := hnews 0 u rfl; simp at hp
    subst hn
    obtain rfl : m = 0 := by
      simp only [List.length_nil] at hl
      rcases Nat.mul_eq_zero.1 hl.symm with h | h <;> omega
    obtain ⟨p, c', rfl⟩ := hr.form
    have hnc : n ≤ c' := by
      rcases hr.own.2 with ⟨h1, h2⟩ | ⟨g, c2, cur, h1, _, _, h2, _⟩
      · subst h2; omega
      · simp only [Value.slice.injEq] at h1; omega
    have hrun := run_append_none (P := P) w t o.type e inf ht hi p n c' c hnc
    unfold Ph.gives execOp
    simp only [ho, resolve, invoke, builtin, Sem.run_bind, Sem.run_pure, Result.andThen_ok, List.map_toArray, List.map_cons, List.map_nil, hs, hx, hrun]
    refine h p c' w ?_ Ch.refl ⟨rfl, rfl, rfl, Nat.le_refl _, fun _ _ _ => rfl⟩
    rw [List.append_nil]
    exact hr.below (Below.refl _ _)

end Go.Proofs.Ytgacbfbjikjanaa
