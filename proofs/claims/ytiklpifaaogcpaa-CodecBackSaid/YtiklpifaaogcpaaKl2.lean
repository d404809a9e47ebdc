/- The lane that writes. -/
import Derived.Test.YtiklpifaaogcpaaKl
import Derived.WalkKit
import Derived.WalkLawsBesides
import Derived.WalkSpells
import Derived.Below
import Derived.Deep.RegionHeld3
import Derived.Deep.QuietTactic
import Derived.BigQuiet
import Derived.Deep.DeepCutAuto
import Derived.Deep.DeepMust
import Derived.KernelRfl
import Derived.Lib.Hide
import Derived.Outline
import Derived.RegionTactic
import Derived.StillTailTactics
import Derived.Laws.IdiomStrings
import Derived.Handy
namespace Go.Proofs.Ytiklpifaaogcpaa
open Go.RowKit Go.Cl Go.Wr Go.Kc
set_option maxRecDepth 100000
set_option linter.unusedVariables false
set_option linter.unusedSimpArgs false


theorem out_num (b : Nat) (col : Nat → Nat) (w : World) (s : List UInt8) (i x k : Nat) (cs : Array Value) (T : TypeId) (n : Int) (h : Wri col 1 w b s) (hB : Blk col i w x cs T) (hi : i ≠ 1) (hk : cs[k]? = some (.int .i64 n)) (n1 : -9223372036854775808 ≤ n) (n2 : n ≤ 9223372036854775807) (hf : (outO.num n s).2.length ≤ 140737488355328) :
    Calls Try.prog 92 #[.pointer (some ⟨b, 0, none⟩), .pointer (some ⟨x, k, none⟩)] w (LPost (fun c W L => Wri c 1 W b L) [1, i] col w (outO.num n s) (fun n' col' w' => Blk col' i w' x (cs.setIfInBounds k (.int .i64 n')) T) (Kep x i T cs.size)) := by
  have hc := hp_cell hB.hp k
  rw [hk] at hc
  have HF : Hid (∀ W, Below w.heap.size w W → Calls Try.prog 95 #[.pointer (some ⟨b, 0, none⟩), .int .i64 n] W fun e w' => e = .returned (.tuple #[]) ∧ Wri (paint (paint col w 1) W 1) 1 w' b (s ++ num (zz n)) ∧ Ch (paint col w 1) 1 W w') := Lib.hid fun W hW => wr_num _ 1 W b s (h.painted hW) n n1 n2 (by have := hf; simp only [outO, List.length_append] at this; exact this)
  go_enter Try.func92, Try.ntmps92
  go_wp2
  refine Ph.region_at (by kernel_rfl) ?_
  refine Ph.at_quiet 6 (by kernel_rfl) ?_
  simp only [List.take_succ_cons, List.take_zero, List.drop_succ_cons, List.drop_zero]
  repeat ((first | (apply Ph.wpPh_g; (focus (intro w1 hS0; have hc1 := (cell_below (below_call (below_drew (Below.refl _ _)) hS0) hc); go_simp; first | exact rfl | exact ⟨rfl, Below.refl _ _⟩)))); simp only [Act.put, List.setIfInBounds_toArray, List.set_cons_zero, List.set_cons_succ])
  refine Ph.wpPh_nil ?_; intro w2 hS2
  have hb2 := below_call (below_drew (Below.refl _ _)) hS2
  refine Ph.at_op rfl (by kernel_rfl) ?_
  go_wp2_with fail
  refine (HF.out w2 hb2).mono ?_
  rintro e w3 ⟨rfl, hW3, hC3⟩
  go_wp2
  refine Ph.at_end (by simp) ?_
  go_wp2
  refine bodyPost_end (results_none rfl _ _ _) rfl ?_
  have hC := (Ch.of_below hb2).trans hC3
  rw [paint_paint hb2.size] at hW3
  refine ⟨_, hC.mv' (by simp), .inl ⟨_, rfl, rfl, hW3, ?_⟩⟩
  show Blk _ _ _ _ (cs.setIfInBounds k (.int .i64 n)) _
  rw [set_same hk]
  exact hB.kept hC.mv (by simpa using hi)

theorem out_text (b : Nat) (col : Nat → Nat) (w : World) (s : List UInt8) (i x k : Nat) (cs : Array Value) (T : TypeId) (t : ByteArray) (m : Int) (h : Wri col 1 w b s) (hB : Blk col i w x cs T) (hi : i ≠ 1) (hk : cs[k]? = some (.string t)) (hf : (outO.text t m s).2.length ≤ 140737488355328) :
    Calls Try.prog 93 #[.pointer (some ⟨b, 0, none⟩), .pointer (some ⟨x, k, none⟩), .int .i64 m] w (LPost (fun c W L => Wri c 1 W b L) [1, i] col w (outO.text t m s) (fun n' col' w' => Blk col' i w' x (cs.setIfInBounds k (.string n')) T) (Kep x i T cs.size)) := by
  have hc := hp_cell hB.hp k
  rw [hk] at hc
  have HF : Hid (∀ W, Below w.heap.size w W → Calls Try.prog 96 #[.pointer (some ⟨b, 0, none⟩), .string t] W fun e w' => e = .returned (.tuple #[]) ∧ Wri (paint (paint col w 1) W 1) 1 w' b (s ++ txt t.data.toList) ∧ Ch (paint col w 1) 1 W w') := Lib.hid fun W hW => wr_text _ 1 W b s (h.painted hW) t (by have := hf; unfold maxLen; simp only [outO, txt, List.length_append] at this; have e : t.data.toList.length = t.size := (by simp); omega) (by have := hf; simp only [outO, List.length_append] at this; exact this)
  go_enter Try.func93, Try.ntmps93
  go_wp2
  refine Ph.region_at (by kernel_rfl) ?_
  refine Ph.at_quiet 6 (by kernel_rfl) ?_
  simp only [List.take_succ_cons, List.take_zero, List.drop_succ_cons, List.drop_zero]
  repeat ((first | (apply Ph.wpPh_g; (focus (intro w1 hS0; have hc1 := (cell_below (below_call (below_drew (Below.refl _ _)) hS0) hc); go_simp; first | exact rfl | exact ⟨rfl, Below.refl _ _⟩)))); simp only [Act.put, List.setIfInBounds_toArray, List.set_cons_zero, List.set_cons_succ])
  refine Ph.wpPh_nil ?_; intro w2 hS2
  have hb2 := below_call (below_drew (Below.refl _ _)) hS2
  refine Ph.at_op rfl (by kernel_rfl) ?_
  go_wp2_with fail
  refine (HF.out w2 hb2).mono ?_
  rintro e w3 ⟨rfl, hW3, hC3⟩
  go_wp2
  refine Ph.at_end (by simp) ?_
  go_wp2
  refine bodyPost_end (results_none rfl _ _ _) rfl ?_
  have hC := (Ch.of_below hb2).trans hC3
  rw [paint_paint hb2.size] at hW3
  refine ⟨_, hC.mv' (by simp), .inl ⟨_, rfl, rfl, hW3, ?_⟩⟩
  show Blk _ _ _ _ (cs.setIfInBounds k (.string t)) _
  rw [set_same hk]
  exact hB.kept hC.mv (by simpa using hi)

theorem out_bool (b : Nat) (col : Nat → Nat) (w : World) (s : List UInt8) (i x k : Nat) (cs : Array Value) (T : TypeId) (y : Bool) (h : Wri col 1 w b s) (hB : Blk col i w x cs T) (hi : i ≠ 1) (hk : cs[k]? = some (.bool y)) (hf : (outO.bool y s).2.length ≤ 140737488355328) :
    Calls Try.prog 94 #[.pointer (some ⟨b, 0, none⟩), .pointer (some ⟨x, k, none⟩)] w (LPost (fun c W L => Wri c 1 W b L) [1, i] col w (outO.bool y s) (fun n' col' w' => Blk col' i w' x (cs.setIfInBounds k (.bool n')) T) (Kep x i T cs.size)) := by
  have hc := hp_cell hB.hp k
  rw [hk] at hc
  have HF : Hid (∀ W, Below w.heap.size w W → Calls Try.prog 97 #[.pointer (some ⟨b, 0, none⟩), .bool y] W fun e w' => e = .returned (.tuple #[]) ∧ Wri (paint (paint col w 1) W 1) 1 w' b (s ++ bol y) ∧ Ch (paint col w 1) 1 W w') := Lib.hid fun W hW => wr_bool _ 1 W b s (h.painted hW) y (by have := hf; simp only [outO, List.length_append] at this; have e : (bol y).length = 1 := (by cases y <;> rfl); omega)
  go_enter Try.func94, Try.ntmps94
  go_wp2
  refine Ph.region_at (by kernel_rfl) ?_
  refine Ph.at_quiet 6 (by kernel_rfl) ?_
  simp only [List.take_succ_cons, List.take_zero, List.drop_succ_cons, List.drop_zero]
  repeat ((first | (apply Ph.wpPh_g; (focus (intro w1 hS0; have hc1 := (cell_below (below_call (below_drew (Below.refl _ _)) hS0) hc); go_simp; first | exact rfl | exact ⟨rfl, Below.refl _ _⟩)))); simp only [Act.put, List.setIfInBounds_toArray, List.set_cons_zero, List.set_cons_succ])
  refine Ph.wpPh_nil ?_; intro w2 hS2
  have hb2 := below_call (below_drew (Below.refl _ _)) hS2
  refine Ph.at_op rfl (by kernel_rfl) ?_
  go_wp2_with fail
  refine (HF.out w2 hb2).mono ?_
  rintro e w3 ⟨rfl, hW3, hC3⟩
  go_wp2
  refine Ph.at_end (by simp) ?_
  go_wp2
  refine bodyPost_end (results_none rfl _ _ _) rfl ?_
  have hC := (Ch.of_below hb2).trans hC3
  rw [paint_paint hb2.size] at hW3
  refine ⟨_, hC.mv' (by simp), .inl ⟨_, rfl, rfl, hW3, ?_⟩⟩
  show Blk _ _ _ _ (cs.setIfInBounds k (.bool y)) _
  rw [set_same hk]
  exact hB.kept hC.mv (by simpa using hi)

end Go.Proofs.Ytiklpifaaogcpaa
