/- CodecKeeps: a list and one more. -/
import Derived.Test.YtiklpifaaogcpaaKen
import Derived.Test.YtiklpifaaogcpaaKcf
import Derived.Test.YtiklpifaaogcpaaFx
import Derived.WalkKit
import Derived.WalkLawsBesides
import Derived.WalkSpells
import Derived.Below
import Derived.Deep.RegionHeld3
import Derived.Deep.QuietTactic
import Derived.BigQuiet
import Derived.Deep.DeepCutAuto
import Derived.Deep.DeepMust
import Derived.KernelRfl
import Derived.Lib.Hide
import Derived.Outline
import Derived.RegionTactic
import Derived.StillTailTactics
import Derived.Laws.IdiomStrings
import Derived.Handy
namespace Go.Proofs.Ytiklpifaaogcpaa
open Go.RowKit Go.Cl Go.Wr Go.Kc
set_option maxRecDepth 100000
set_option linter.unusedVariables false
set_option linter.unusedSimpArgs false

theorem encW_one (e : Wt) : ∀ u ∈ encW e, u.oneCell' = true := encW_ok.2 e
theorem encS_one (e : ByteArray) : ∀ u ∈ encS e, u.oneCell' = true := encS_ok.2 e
theorem gives_append_col {P : Program} {col : Nat → Nat} {i : Nat} {w : World} {o : Oper} {a : Act} {R : Value → World → Prop} (s x : Operand) (t : TypeId)
    (ho : o.op = .call { callee := .builtin .append, args := #[s, x], argTypes := #[t, t] })
    (e : TypeId) (inf : TypeInfo) (z : Value) (size bytes : Nat) (ht : P.underlying t = some (.slice e)) (hi : P.info? e = some inf) (hz : inf.zero = some z)
    (hsize : inf.size = size) (hby : inf.bytes = bytes) (hzs : z.cells.size = size) (hsz : 0 < size)
    (v : Value) (n : Nat) (xs : List Value) (hs : a.eval s = v) (hr : Row col i w e size v n xs)
    (ad : Addr) (m c : Nat) (news : List Value) (hx : a.eval x = .slice (some ad) m c) (hl : news.length = m * size) (hnews : ∀ j u, news[j]? = some u → w.cell? (ad.add j) = some u) (h1 : ∀ u ∈ news, u.oneCell' = true)
    (h63 : n + m ≤ maxLen) (hbytes : (n + m) * bytes ≤ 140737488355328)
    (h : ∀ p c' w', Row (paint col w i) i w' e size (.slice p (n + m) c') (n + m) (xs ++ news) → Ch col i w w' → w.grownBy w' v.ownBlock → R (.slice p (n + m) c') w') : Ph.gives P o a w R := by
  obtain ⟨v', w', hrun, h2, h3⟩ := run_append_col (P := P) (col := col) (i := i) w t o.type e inf z size bytes ht hi hz hsize hby hzs hsz v n xs hr ad m c news hl hnews h1 h63 hbytes
  unfold Ph.gives execOp
  simp only [ho, resolve, invoke, builtin, Sem.run_bind, Sem.run_pure, Result.andThen_ok, List.map_toArray, List.map_cons, List.map_nil, hs, hx, hrun]
  obtain ⟨p, c', rfl⟩ := h2.form
  exact h p c' w' h2 (Ch.refl.grown h3 (fun k hk => paint_of (hr.col k hk))) h3
theorem gv_ld {o : Oper} {a : Act} {w : World} {S : World → Prop} (x : Operand) (ho : o.op = .load 30 x) (g : Nat) (hx : a.eval x = .pointer (some ⟨g, 0, none⟩)) (cs : Array Value) {t : TypeId} {fr : Nat × Nat} (h : hp w g = some (.cells cs t fr)) (hs : cs.size = 16)
    (hr : S w) : Ph.givesV Try.prog o a w (.agg cs) S := by
  unfold Ph.givesV execOp
  simp only [ho, hx, Instr.loadAt, Instr.sureAddr, Sem.run_bind, Sem.run_pure, Result.andThen_ok, run_loadVar_mid w g 0 30 cs.toList _ (fun j v hv => by rw [Nat.zero_add, hp_cell h]; simpa using hv) Try.underlying30 rfl (by rw [info30]; simp [hs])]
  exact ⟨by simp, hr⟩
theorem ba_sz (a : List UInt8) : (⟨a.toArray⟩ : ByteArray).size = a.length := by simp [ByteArray.size]

theorem X_op {P : Program} {ops : Array Oper} {T : World → Prop} {L : Act → World → Prop} {k : Nat} {rem : List Nat} {a : Act} {w : World} {i : Nat} {o : Oper} (ho : ops[i]? = some o) (hg : o.guard = none) {v : Value} {S : World → Prop} (h : Ph.givesV P o a w v S) (hr : ∀ w', S w' → Ph.wpX P ops T L k rem (a.put o.dst v) w') :
    ∃ o, ops[i]? = some o ∧ o.guard = none ∧ Ph.gives P o a w fun v w' => Ph.wpX P ops T L k rem (a.put o.dst v) w' := ⟨o, ho, hg, Ph.gives_mono (Ph.givesV_gives h) fun u w' ⟨h1, h2⟩ => by subst h1; exact hr w' h2⟩
theorem cell_set_ne {w : World} {q : Addr} {u : Value} {g k : Nat} (h : g ≠ q.block) : (w.setCell q u).cell? ⟨g, k, none⟩ = w.cell? ⟨g, k, none⟩ := by
  unfold World.cell?
  rw [heap_set w q u h]
theorem LsW.set {w : World} {p : Option Addr} {c : Nat} {L : List Wt} (h : LsW w p c L) {q : Addr} (hne : ∀ g o, p = some ⟨g, o, none⟩ → g ≠ q.block) (u : Value) : LsW (w.setCell q u) p c L := ⟨h.cap, fun i x hi => by
  obtain ⟨g, o, h0, h1, h2, h3, h4⟩ := h.at_ i x hi
  have hg := hne g o h0
  exact ⟨g, o, h0, by simpa [World.setCell] using h1, by rw [cell_set_ne hg]; exact h2, by rw [cell_set_ne hg]; exact h3, by rw [cell_set_ne hg]; exact h4⟩⟩
theorem below_of_ch {i : Nat} {w w' : World} (hi : 0 ≠ i) (h : Ch zc i w w') : Below w.heap.size w w' := ⟨h.os, h.tape, h.output, h.size, fun k hk => h.block k hk hi⟩
theorem run_append_none {P : Program} {w : World} {p : Option Addr} {n c : Nat} {t ty e : TypeId} {inf : TypeInfo} (ht : P.underlying t = some (.slice e)) (hi : P.info? e = some inf) (h : n ≤ c) : (Builtin.append_ #[t, t] ty #[.slice p n c, .slice none 0 0]).run P w = .ok (.slice p n c) w := by
  cases p <;> simp [Builtin.append_, run_underlying ht, sizeOf, typeInfo, hi, Builtin.lenOf, Builtin.firstCells, loadCells, loadCellsFrom, h, storeCells]

theorem gives_app0W {col : Nat → Nat} {w : World} {o : Oper} {a : Act} {R : Value → World → Prop} {L : List Wt} {lp : Option Addr} {lc : Nat} (hL : LsW w lp lc L) (s x : Operand)
    (ho : o.op = .call { callee := .builtin .append, args := #[s, x], argTypes := #[27, 27] }) {g : Nat} (hs : a.eval s = .slice (some ⟨g, 0, none⟩) 0 0) (hr : Row col 3 w 49 3 (.slice (some ⟨g, 0, none⟩) 0 0) 0 [])
    (hx : a.eval x = .slice lp L.length lc) (hby : L.length * 40 ≤ 140737488355328)
    (h : ∀ p c' w', Row (paint col w 3) 3 w' 49 3 (.slice p L.length c') L.length (L.flatMap encW) → Ch col 3 w w' → w.grownBy w' (some g) → R (.slice p L.length c') w') : Ph.gives Try.prog o a w R := by
  obtain ⟨i0, hi0, hz0, hz1, hz2⟩ := info_parts Try.info49
  cases lp with
  | none =>
    have hL0 : L = [] := by
      cases L with
      | nil => rfl
      | cons b M => obtain ⟨_, _, e, _⟩ := hL.at_ 0 b rfl; cases e
    subst hL0
    have hc0 : lc = 0 ∨ True := .inr trivial
    have hrun := run_append_none (P := Try.prog) (w := w) (p := some ⟨g, 0, none⟩) (n := 0) (c := 0) (ty := o.type) Try.underlying27 hi0 (Nat.le_refl _)
    have hx' : a.eval x = .slice none 0 lc := hx
    unfold Ph.gives execOp
    have hrun2 : (Builtin.append_ #[27, 27] o.type #[.slice (some ⟨g, 0, none⟩) 0 0, .slice none 0 lc]).run Try.prog w = .ok (.slice (some ⟨g, 0, none⟩) 0 0) w := by
      simp [Builtin.append_, run_underlying Try.underlying27, sizeOf, typeInfo, hi0, Builtin.lenOf, Builtin.firstCells, loadCells, loadCellsFrom, storeCells]
    simp only [ho, resolve, invoke, builtin, Sem.run_bind, Sem.run_pure, Result.andThen_ok, List.map_toArray, List.map_cons, List.map_nil, hs, hx', hrun2]
    exact h _ _ _ (hr.kept (S := []) (Mv.new (Below.refl _ _) 3) (by simp)) Ch.refl (grownBy_refl _ _)
  | some ad =>
    refine gives_append_col s x 27 ho 49 i0 (.agg #[.string ⟨#[]⟩, .bool false, .string ⟨#[]⟩]) 3 40 Try.underlying27 hi0 hz0 hz1 hz2 rfl (by decide) _ 0 [] hs hr ad L.length lc (L.flatMap encW) hx (by rw [encW_ok.length]) (encW_src hL) (encW_ok.ones L) (by rw [Nat.zero_add]; exact Nat.le_trans hL.cap.1 hL.cap.2) (by rw [Nat.zero_add]; exact hby) ?_
    intro p c' w' h1 h2 h3
    rw [Nat.zero_add] at h1 ⊢
    exact h p c' w' (by simpa using h1) h2 h3

theorem gives_app0K {col : Nat → Nat} {w : World} {o : Oper} {a : Act} {R : Value → World → Prop} {L : List ByteArray} {lp : Option Addr} {lc : Nat} (hL : LsS w lp lc L) (s x : Operand)
    (ho : o.op = .call { callee := .builtin .append, args := #[s, x], argTypes := #[28, 28] }) {g : Nat} (hs : a.eval s = .slice (some ⟨g, 0, none⟩) 0 0) (hr : Row col 3 w 9 1 (.slice (some ⟨g, 0, none⟩) 0 0) 0 [])
    (hx : a.eval x = .slice lp L.length lc) (hby : L.length * 16 ≤ 140737488355328)
    (h : ∀ p c' w', Row (paint col w 3) 3 w' 9 1 (.slice p L.length c') L.length (L.flatMap encS) → Ch col 3 w w' → w.grownBy w' (some g) → R (.slice p L.length c') w') : Ph.gives Try.prog o a w R := by
  obtain ⟨i0, hi0, hz0, hz1, hz2⟩ := info_parts Try.info9
  cases lp with
  | none =>
    have hL0 : L = [] := by
      cases L with
      | nil => rfl
      | cons b M => obtain ⟨_, _, e, _⟩ := hL.at_ 0 b rfl; cases e
    subst hL0
    have hc0 : lc = 0 ∨ True := .inr trivial
    have hrun := run_append_none (P := Try.prog) (w := w) (p := some ⟨g, 0, none⟩) (n := 0) (c := 0) (ty := o.type) Try.underlying28 hi0 (Nat.le_refl _)
    have hx' : a.eval x = .slice none 0 lc := hx
    unfold Ph.gives execOp
    have hrun2 : (Builtin.append_ #[28, 28] o.type #[.slice (some ⟨g, 0, none⟩) 0 0, .slice none 0 lc]).run Try.prog w = .ok (.slice (some ⟨g, 0, none⟩) 0 0) w := by
      simp [Builtin.append_, run_underlying Try.underlying28, sizeOf, typeInfo, hi0, Builtin.lenOf, Builtin.firstCells, loadCells, loadCellsFrom, storeCells]
    simp only [ho, resolve, invoke, builtin, Sem.run_bind, Sem.run_pure, Result.andThen_ok, List.map_toArray, List.map_cons, List.map_nil, hs, hx', hrun2]
    exact h _ _ _ (hr.kept (S := []) (Mv.new (Below.refl _ _) 3) (by simp)) Ch.refl (grownBy_refl _ _)
  | some ad =>
    refine gives_append_col s x 28 ho 9 i0 (.string ⟨#[]⟩) 1 16 Try.underlying28 hi0 hz0 hz1 hz2 rfl (by decide) _ 0 [] hs hr ad L.length lc (L.flatMap encS) hx (by rw [encS_ok.length]) (encS_src hL) (encS_ok.ones L) (by rw [Nat.zero_add]; exact Nat.le_trans hL.cap.1 hL.cap.2) (by rw [Nat.zero_add]; exact hby) ?_
    intro p c' w' h1 h2 h3
    rw [Nat.zero_add] at h1 ⊢
    exact h p c' w' (by simpa using h1) h2 h3

theorem LsW.pre {w : World} {p : Option Addr} {c : Nat} {L : List Wt} {x : Wt} (h : LsW w p c (L ++ [x])) : LsW w p c L := ⟨⟨by have := h.cap.1; simp at this; omega, h.cap.2⟩, fun i y hi => h.at_ i y (by
  obtain ⟨hl, _⟩ := List.getElem?_eq_some_iff.1 hi
  rw [List.getElem?_append_left hl]; exact hi)⟩
theorem LsS.pre {w : World} {p : Option Addr} {c : Nat} {L : List ByteArray} {x : ByteArray} (h : LsS w p c (L ++ [x])) : LsS w p c L := ⟨⟨by have := h.cap.1; simp at this; omega, h.cap.2⟩, fun i y hi => h.at_ i y (by
  obtain ⟨hl, _⟩ := List.getElem?_eq_some_iff.1 hi
  rw [List.getElem?_append_left hl]; exact hi)⟩
theorem cell_mv {S : List Nat} {col col' : Nat → Nat} {w w' : World} (hm : Mv S col w col' w') {g k : Nat} (hg : g < w.heap.size) (hc : col g ∉ S) : w'.cell? ⟨g, k, none⟩ = w.cell? ⟨g, k, none⟩ := by
  unfold World.cell?
  rw [hm.block g hg hc]
theorem LsW.mv {S : List Nat} {col col' : Nat → Nat} {w w' : World} {p : Option Addr} {c : Nat} {L : List Wt} (h : LsW w p c L) (hm : Mv S col w col' w') (hc : ∀ g o, p = some ⟨g, o, none⟩ → g < w.heap.size → col g ∉ S) : LsW w' p c L := ⟨h.cap, fun i x hi => by
  obtain ⟨g, o, h0, h1, h2, h3, h4⟩ := h.at_ i x hi
  have hg := hc g o h0 h1
  exact ⟨g, o, h0, Nat.lt_of_lt_of_le h1 hm.size, by rw [cell_mv hm h1 hg]; exact h2, by rw [cell_mv hm h1 hg]; exact h3, by rw [cell_mv hm h1 hg]; exact h4⟩⟩
theorem LsS.mv {S : List Nat} {col col' : Nat → Nat} {w w' : World} {p : Option Addr} {c : Nat} {L : List ByteArray} (h : LsS w p c L) (hm : Mv S col w col' w') (hc : ∀ g o, p = some ⟨g, o, none⟩ → g < w.heap.size → col g ∉ S) : LsS w' p c L := ⟨h.cap, fun i x hi => by
  obtain ⟨g, o, h0, h1, h2⟩ := h.at_ i x hi
  have hg := hc g o h0 h1
  exact ⟨g, o, h0, Nat.lt_of_lt_of_le h1 hm.size, by rw [cell_mv hm h1 hg]; exact h2⟩⟩
def KW_Inv (col : Nat → Nat) (wz : World) (p : Option Addr) (n : Nat) (t10 : Value) (V : World) : Prop := ∃ j : Nat, t10 = .int .i64 j ∧ j ≤ n ∧ Mv [3] col wz col V ∧ (0 < n → ∃ g cur, p = some ⟨g, 0, none⟩ ∧ hp V g = some (.cells cur 49 (0, 0)) ∧ n * 3 ≤ cur.size ∧ col g = 3)
def KK_Inv (col : Nat → Nat) (wz : World) (p : Option Addr) (n : Nat) (t10 : Value) (V : World) : Prop := ∃ j : Nat, t10 = .int .i64 j ∧ j ≤ n ∧ Mv [3, 5] col wz col V ∧ (0 < n → ∃ g cur, p = some ⟨g, 0, none⟩ ∧ hp V g = some (.cells cur 9 (0, 0)) ∧ n ≤ cur.size ∧ col g = 5)

theorem below_mvS {S : List Nat} {col col' : Nat → Nat} {w w1 w2 : World} (hb : Below w.heap.size w w1) (hm : Mv S col w1 col' w2) (hc : ∀ k, k < w.heap.size → col k ∉ S) : Below w.heap.size w w2 :=
  ⟨hm.os.trans hb.os, hm.tape.trans hb.tape, hm.output.trans hb.output, Nat.le_trans hb.size hm.size, fun k hk => (hm.block k (Nat.lt_of_lt_of_le hk hb.size) (hc k hk)).trans (hb.block k hk)⟩

end Go.Proofs.Ytiklpifaaogcpaa
