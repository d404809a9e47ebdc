/- A whole message loaded, and stored, at once. -/
import Derived.Test.YtiklpifaaogcpaaKb3
import Derived.WalkKit
import Derived.WalkLawsBesides
import Derived.WalkSpells
import Derived.Below
import Derived.Deep.RegionHeld3
import Derived.Deep.QuietTactic
import Derived.BigQuiet
import Derived.Deep.DeepCutAuto
import Derived.Deep.DeepMust
import Derived.KernelRfl
import Derived.Lib.Hide
import Derived.Outline
import Derived.RegionTactic
import Derived.StillTailTactics
import Derived.Laws.IdiomStrings
import Derived.Handy
import Derived.Laws.Tables
import Derived.Deep.WholeRow
import Derived.Deep.MidRow
namespace Go.Proofs.Ytiklpifaaogcpaa
open Go.RowKit Go.Cl Go.Wr Go.Kc
set_option maxRecDepth 100000
set_option linter.unusedVariables false
set_option linter.unusedSimpArgs false


theorem info30 : (Try.prog.info? 30).map (·.size) = some 16 := by kernel_rfl
theorem ld30 {W : World} {g n : Nat} {cs : Array Value} {t : TypeId} {fr : Nat × Nat} (h : hp W g = some (.cells cs t fr)) (hs : cs.size = n) : (loadCellsFrom ⟨g, 0, none⟩ 0 n #[]).run Try.prog W = .ok cs W := by
  subst hs
  have := run_loadCells_list (P := Try.prog) W ⟨g, 0, none⟩ cs.toList (fun j v hv => by
    have hadd : (⟨g, 0, none⟩ : Addr).add j = ⟨g, j, none⟩ := by unfold Addr.add; split <;> simp_all
    rw [hadd, hp_cell h]
    simpa using hv)
  simpa [loadCells] using this
theorem st30 {W : World} {g : Nat} {cs cs' : Array Value} {t : TypeId} (h : hp W g = some (.cells cs t (0, 0))) (hs : cs.size = cs'.size) (h1 : cs'.all (·.oneCell') = true) : (storeCells ⟨g, 0, none⟩ cs'.toList 0).run Try.prog W = .ok () (W.setRow g cs') := by
  have := run_storeCells_from (P := Try.prog) g t cs'.toList 0 cs W h (by simp; omega) (fun v hv => (Array.all_eq_true_iff_forall_mem.1 h1) v (by simpa using hv))
  simpa using this
theorem hp_row {W : World} {g : Nat} {cs cs' : Array Value} {t : TypeId} {fr : Nat × Nat} (h : hp W g = some (.cells cs t fr)) : hp (W.setRow g cs') g = some (.cells cs' t fr) := by
  unfold hp at h ⊢
  simp only [World.setRow, Array.getElem?_modify, if_true, h, Option.map_some]
theorem hp_row_ne {W : World} {g k : Nat} {cs' : Array Value} {x : Obj} (h : hp W k = some x) (hne : k ≠ g) : hp (W.setRow g cs') k = some x := by
  unfold hp at h ⊢
  simp only [World.setRow]
  rw [Array.getElem?_modify, if_neg (fun e => hne e.symm)]; exact h
theorem mv_row {S : List Nat} {col col' : Nat → Nat} {w w1 : World} (h : Mv S col w col' w1) {g : Nat} (hp : col' g ∈ S) (cs : Array Value) : Mv S col w col' (w1.setRow g cs) :=
  ⟨h.os, h.tape, h.output, by have := h.size; simpa [World.setRow] using this, fun k hk hc => by
    have hne : ¬ g = k := fun e => hc (by rw [← h.col k hk, ← e]; exact hp)
    have := h.block k hk hc
    simp only [World.setRow]
    rw [Array.getElem?_modify, if_neg hne]; exact this, h.col⟩
theorem below_row {w W : World} (h : Below w.heap.size w W) {g : Nat} (hg : w.heap.size ≤ g) (cs : Array Value) : Below w.heap.size w (W.setRow g cs) :=
  ⟨h.os, h.tape, h.output, by have := h.size; simpa [World.setRow] using this, fun k hk => by
    have hne : ¬ g = k := by omega
    have := h.block k hk
    simp only [World.setRow]
    rw [Array.getElem?_modify, if_neg hne]; exact this⟩
theorem hpA (w : World) (o : Obj) (k : Nat) : hp (w.alloc o) k = if k = w.heap.size then some o else hp w k := by
  show (w.heap.push o)[k]? = _
  rw [Array.getElem?_push]; rfl
theorem hp_drew (w : World) (g : Nat) : hp w.drew g = hp w g := rfl
theorem below_drewB {w W : World} {b : Nat} (h : Below b w W) : Below b w W.drew := ⟨h.os, h.tape, h.output, h.size, h.block⟩
theorem below_setB {w W : World} {b : Nat} (h : Below b w W) {p : Addr} (hp : b ≤ p.block) (u : Value) : Below b w (W.setCell p u) := h.setCell hp u
def Z30 : Array Value := #[.int .i64 0, .int .i64 0, .int .i64 0, .int .i64 0, .int .i64 0, .int .i64 0, .string ⟨#[]⟩, .int .i64 0, .int .i64 0, .bool false, .string ⟨#[]⟩, .bool false, .int .i64 0, .int .i64 0, .slice none 0 0, .slice none 0 0]
section
variable {ops : Array Oper} {rest : List Oper} {o : Oper} {a : Act} {w : World} {Q : Exit → Act → World → Prop}
theorem ld_op (hgd : o.guard = none) (x : Operand) (ho : o.op = .load 30 x) (g : Nat) (hx : a.eval x = .pointer (some ⟨g, 0, none⟩)) (cs : Array Value) {t : TypeId} {fr : Nat × Nat} (h : hp w g = some (.cells cs t fr)) (hs : cs.size = 16)
    (hr : wpList Try.prog ops Q rest (a.put o.dst (.agg cs)) w) : wpList Try.prog ops Q (o :: rest) a w := by
  refine wpList_load_mid hgd 30 x ho g 0 hx cs.toList _ (fun j v hv => ?_) Try.underlying30 rfl (by rw [info30]; simp [hs]) (by simpa using hr)
  rw [Nat.zero_add, hp_cell h]; simpa using hv
theorem st_op (hgd : o.guard = none) (x y : Operand) (ho : o.op = .store 30 x y) (g : Nat) (cs' : Array Value) (hx : a.eval x = .pointer (some ⟨g, 0, none⟩)) (hy : a.eval y = .agg cs') (cs : Array Value) {t : TypeId} (h : hp w g = some (.cells cs t (0, 0))) (hs : cs.size = 16) (hs' : cs'.size = 16) (h1 : cs'.all (·.oneCell') = true)
    (hr : wpList Try.prog ops Q rest (a.put o.dst undef) (w.setRow g cs')) : wpList Try.prog ops Q (o :: rest) a w :=
  wpList_plain hgd fun K hK => wp_store_row 30 x y ho g cs' hx hy t cs h (by rw [info30, hs']) (by rw [hs, hs']) h1 (hK _ _ hr)
theorem al_op (hgd : o.guard = none) (ho : o.op = .alloc 30) (hr : wpList Try.prog ops Q rest (a.put o.dst (.pointer (some ⟨w.heap.size, 0, none⟩))) (w.alloc (.cells Z30 30))) : wpList Try.prog ops Q (o :: rest) a w := by
  refine wpList_plain hgd fun K hK => ?_
  unfold Oper.wp execOp
  simp only [ho]
  have := hK _ _ hr
  simpa [go_sem, Z30] using this
theorem res30 {fn : Func} {x : Tmp} (hf : fn.results = #[.cell x 30]) {tmps : Array Value} {g : Nat} (hx : tmps.getD x undef = .pointer (some ⟨g, 0, none⟩)) {cs : Array Value} {t : TypeId} {fr : Nat × Nat} (h : hp w g = some (.cells cs t fr)) (hs : cs.size = 16) : (results fn tmps).run Try.prog w = .ok (.agg cs) w := by
  have hl := run_loadVar_mid (P := Try.prog) w g 0 30 cs.toList _ (fun j v hv => by rw [Nat.zero_add, hp_cell h]; simpa using hv) Try.underlying30 rfl (by rw [info30]; simp [hs])
  simp only [Array.toArray_toList] at hl
  have hx' : tmps[x]?.getD undef = .pointer (some ⟨g, 0, none⟩) := by simpa using hx
  simp [results, hf, hx', asAddr, hl]
end

end Go.Proofs.Ytiklpifaaogcpaa
