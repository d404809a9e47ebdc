/- The reference's only, for any message. -/
import Derived.Test.YtiklpifaaogcpaaKo
import Derived.Test.YtiklpifaaogcpaaKo2
import Derived.Test.YtiklpifaaogcpaaKv
import Derived.WalkKit
import Derived.WalkLawsBesides
import Derived.WalkSpells
import Derived.Below
import Derived.Deep.RegionHeld3
import Derived.Deep.QuietTactic
import Derived.BigQuiet
import Derived.Deep.DeepCutAuto
import Derived.Deep.DeepMust
import Derived.KernelRfl
import Derived.Lib.Hide
import Derived.Outline
import Derived.RegionTactic
import Derived.StillTailTactics
import Derived.Laws.IdiomStrings
namespace Go.Proofs.Ytiklpifaaogcpaa
open Go.RowKit Go.Cl Go.Wr Go.Kc
set_option maxRecDepth 100000
set_option linter.unusedVariables false
set_option linter.unusedSimpArgs false


theorem sz_emp (k : ByteArray) : k.size = 0 ↔ k = ⟨#[]⟩ := ⟨fun h => ByteArray.ext (Array.eq_empty_of_size_eq_zero h), fun h => by rw [h]; rfl⟩
theorem lw0 (w : World) : LsW w none 0 [] := ⟨⟨Nat.le_refl _, Nat.zero_le _⟩, fun i x h => by simp at h⟩
theorem ls0 (w : World) : LsS w none 0 [] := ⟨⟨Nat.le_refl _, Nat.zero_le _⟩, fun i x h => by simp at h⟩
/-- The reference's 'only' answers a message that is m where m has nothing that its kind doesn't use. -/
def OnlyOk (m : Mg) (wp : Option Addr) (wq : Nat) (kp : Option Addr) (kq : Nat) : Prop := ∃ (b : Mg) (wp' : Option Addr) (wq' : Nat) (kp' : Option Addr) (kq' : Nat), (m = b ↔ UnM m) ∧ (∀ w, LsW w wp wq m.W → LsW w wp' wq' b.W) ∧ (∀ w, LsS w kp kq m.K → LsS w kp' kq' b.K) ∧
  ∀ w, Calls Try.prog 33 #[.agg (m.cs wp wq kp kq)] w fun e w' => e = .returned (.agg (b.cs wp' wq' kp' kq')) ∧ Below w.heap.size w w'
theorem only_1 (node inc ses tx seq lo hi err n : Int) (key data : ByteArray) (has hit : Bool) (W : List Wt) (K : List ByteArray) (wp kp : Option Addr) (wq kq : Nat) : OnlyOk ⟨1, node, inc, ses, tx, seq, key, lo, hi, has, data, hit, err, n, W, K⟩ wp wq kp kq := by
  refine ⟨⟨1, 0, 0, ses, 0, seq, ⟨#[]⟩, 0, 0, false, ⟨#[]⟩, false, 0, 0, W, []⟩, wp, wq, none, 0, ?_, fun w h => h, fun w _ => ls0 w, fun w => o_only_1 node inc ses tx seq lo hi err n key data has hit wp kp W.length wq K.length kq w⟩
  rw [unM_iff]
  skip
  simp only [fullM, sz_emp, List.length_eq_zero_iff, Mg.mk.injEq]
  simp
  try (constructor <;> (intro h; simp_all))
theorem only_2 (node inc ses tx seq lo hi err n : Int) (key data : ByteArray) (has hit : Bool) (W : List Wt) (K : List ByteArray) (wp kp : Option Addr) (wq kq : Nat) : OnlyOk ⟨2, node, inc, ses, tx, seq, key, lo, hi, has, data, hit, err, n, W, K⟩ wp wq kp kq := by
  refine ⟨⟨2, 0, 0, ses, 0, seq, ⟨#[]⟩, 0, 0, false, ⟨#[]⟩, false, err, n, [], []⟩, none, 0, none, 0, ?_, fun w _ => lw0 w, fun w _ => ls0 w, fun w => o_only_2 node inc ses tx seq lo hi err n key data has hit wp kp W.length wq K.length kq w⟩
  rw [unM_iff]
  skip
  simp only [fullM, sz_emp, List.length_eq_zero_iff, Mg.mk.injEq]
  simp
  try (constructor <;> (intro h; simp_all))
theorem only_3 (node inc ses tx seq lo hi err n : Int) (key data : ByteArray) (has hit : Bool) (W : List Wt) (K : List ByteArray) (wp kp : Option Addr) (wq kq : Nat) : OnlyOk ⟨3, node, inc, ses, tx, seq, key, lo, hi, has, data, hit, err, n, W, K⟩ wp wq kp kq := by
  refine ⟨⟨3, node, 0, 0, tx, seq, key, lo, hi, false, ⟨#[]⟩, false, 0, 0, [], []⟩, none, 0, none, 0, ?_, fun w _ => lw0 w, fun w _ => ls0 w, fun w => o_only_3 node inc ses tx seq lo hi err n key data has hit wp kp W.length wq K.length kq w⟩
  rw [unM_iff]
  skip
  simp only [fullM, sz_emp, List.length_eq_zero_iff, Mg.mk.injEq]
  simp
  try (constructor <;> (intro h; simp_all))
theorem only_5 (node inc ses tx seq lo hi err n : Int) (key data : ByteArray) (has hit : Bool) (W : List Wt) (K : List ByteArray) (wp kp : Option Addr) (wq kq : Nat) : OnlyOk ⟨5, node, inc, ses, tx, seq, key, lo, hi, has, data, hit, err, n, W, K⟩ wp wq kp kq := by
  refine ⟨⟨5, 0, 0, 0, tx, seq, key, lo, hi, false, ⟨#[]⟩, false, 0, 0, [], []⟩, none, 0, none, 0, ?_, fun w _ => lw0 w, fun w _ => ls0 w, fun w => o_only_5 node inc ses tx seq lo hi err n key data has hit wp kp W.length wq K.length kq w⟩
  rw [unM_iff]
  skip
  simp only [fullM, sz_emp, List.length_eq_zero_iff, Mg.mk.injEq]
  simp
  try (constructor <;> (intro h; simp_all))
theorem only_7 (node inc ses tx seq lo hi err n : Int) (key data : ByteArray) (has hit : Bool) (W : List Wt) (K : List ByteArray) (wp kp : Option Addr) (wq kq : Nat) : OnlyOk ⟨7, node, inc, ses, tx, seq, key, lo, hi, has, data, hit, err, n, W, K⟩ wp wq kp kq := by
  refine ⟨⟨7, node, 0, 0, 0, 0, key, lo, hi, has, data, false, 0, n, [], []⟩, none, 0, none, 0, ?_, fun w _ => lw0 w, fun w _ => ls0 w, fun w => o_only_7 node inc ses tx seq lo hi err n key data has hit wp kp W.length wq K.length kq w⟩
  rw [unM_iff]
  skip
  simp only [fullM, sz_emp, List.length_eq_zero_iff, Mg.mk.injEq]
  simp
  try (constructor <;> (intro h; simp_all))
theorem only_8 (node inc ses tx seq lo hi err n : Int) (key data : ByteArray) (has hit : Bool) (W : List Wt) (K : List ByteArray) (wp kp : Option Addr) (wq kq : Nat) : OnlyOk ⟨8, node, inc, ses, tx, seq, key, lo, hi, has, data, hit, err, n, W, K⟩ wp wq kp kq := by
  refine ⟨⟨8, node, 0, 0, 0, 0, ⟨#[]⟩, 0, 0, false, ⟨#[]⟩, false, 0, n, [], K⟩, none, 0, kp, kq, ?_, fun w _ => lw0 w, fun w h => h, fun w => o_only_8 node inc ses tx seq lo hi err n key data has hit wp kp W.length wq K.length kq w⟩
  rw [unM_iff]
  skip
  simp only [fullM, sz_emp, List.length_eq_zero_iff, Mg.mk.injEq]
  simp
  try (constructor <;> (intro h; simp_all))
theorem only_9 (node inc ses tx seq lo hi err n : Int) (key data : ByteArray) (has hit : Bool) (W : List Wt) (K : List ByteArray) (wp kp : Option Addr) (wq kq : Nat) : OnlyOk ⟨9, node, inc, ses, tx, seq, key, lo, hi, has, data, hit, err, n, W, K⟩ wp wq kp kq := by
  refine ⟨⟨9, node, 0, 0, 0, 0, ⟨#[]⟩, 0, 0, false, ⟨#[]⟩, false, 0, n, [], []⟩, none, 0, none, 0, ?_, fun w _ => lw0 w, fun w _ => ls0 w, fun w => o_only_9 node inc ses tx seq lo hi err n key data has hit wp kp W.length wq K.length kq w⟩
  rw [unM_iff]
  skip
  simp only [fullM, sz_emp, List.length_eq_zero_iff, Mg.mk.injEq]
  simp
  try (constructor <;> (intro h; simp_all))
theorem only_10 (node inc ses tx seq lo hi err n : Int) (key data : ByteArray) (has hit : Bool) (W : List Wt) (K : List ByteArray) (wp kp : Option Addr) (wq kq : Nat) : OnlyOk ⟨10, node, inc, ses, tx, seq, key, lo, hi, has, data, hit, err, n, W, K⟩ wp wq kp kq := by
  refine ⟨⟨10, node, inc, 0, 0, 0, ⟨#[]⟩, 0, 0, false, ⟨#[]⟩, false, 0, 0, [], []⟩, none, 0, none, 0, ?_, fun w _ => lw0 w, fun w _ => ls0 w, fun w => o_only_10 node inc ses tx seq lo hi err n key data has hit wp kp W.length wq K.length kq w⟩
  rw [unM_iff]
  skip
  simp only [fullM, sz_emp, List.length_eq_zero_iff, Mg.mk.injEq]
  simp
  try (constructor <;> (intro h; simp_all))
theorem only_11 (node inc ses tx seq lo hi err n : Int) (key data : ByteArray) (has hit : Bool) (W : List Wt) (K : List ByteArray) (wp kp : Option Addr) (wq kq : Nat) : OnlyOk ⟨11, node, inc, ses, tx, seq, key, lo, hi, has, data, hit, err, n, W, K⟩ wp wq kp kq := by
  refine ⟨⟨11, node, inc, 0, 0, 0, ⟨#[]⟩, 0, 0, false, ⟨#[]⟩, false, 0, n, [], []⟩, none, 0, none, 0, ?_, fun w _ => lw0 w, fun w _ => ls0 w, fun w => o_only_11 node inc ses tx seq lo hi err n key data has hit wp kp W.length wq K.length kq w⟩
  rw [unM_iff]
  skip
  simp only [fullM, sz_emp, List.length_eq_zero_iff, Mg.mk.injEq]
  simp
  try (constructor <;> (intro h; simp_all))
theorem only_4t (node inc ses tx seq lo hi err n : Int) (key data : ByteArray) (has hit : Bool) (W : List Wt) (K : List ByteArray) (wp kp : Option Addr) (wq kq : Nat) : OnlyOk ⟨4, node, inc, ses, tx, seq, key, lo, hi, has, data, true, err, n, W, K⟩ wp wq kp kq := by
  refine ⟨⟨4, 0, 0, 0, tx, seq, ⟨#[]⟩, lo, hi, has, data, true, 0, 0, [], []⟩, none, 0, none, 0, ?_, fun w _ => lw0 w, fun w _ => ls0 w, fun w => o_only_4t node inc ses tx seq lo hi err n key data has hit wp kp W.length wq K.length kq w⟩
  rw [unM_iff]
  skip
  simp only [fullM, sz_emp, List.length_eq_zero_iff, Mg.mk.injEq]
  simp
  try (constructor <;> (intro h; simp_all))
theorem only_4f (node inc ses tx seq lo hi err n : Int) (key data : ByteArray) (has hit : Bool) (W : List Wt) (K : List ByteArray) (wp kp : Option Addr) (wq kq : Nat) : OnlyOk ⟨4, node, inc, ses, tx, seq, key, lo, hi, has, data, false, err, n, W, K⟩ wp wq kp kq := by
  refine ⟨⟨4, 0, 0, 0, tx, seq, ⟨#[]⟩, 0, 0, false, ⟨#[]⟩, false, 0, 0, [], []⟩, none, 0, none, 0, ?_, fun w _ => lw0 w, fun w _ => ls0 w, fun w => o_only_4f node inc ses tx seq lo hi err n key data has hit wp kp W.length wq K.length kq w⟩
  rw [unM_iff]
  skip
  simp only [fullM, sz_emp, List.length_eq_zero_iff, Mg.mk.injEq]
  simp
  try (constructor <;> (intro h; simp_all))
theorem only_6t (node inc ses tx seq lo hi err n : Int) (key data : ByteArray) (has hit : Bool) (W : List Wt) (K : List ByteArray) (wp kp : Option Addr) (wq kq : Nat) : OnlyOk ⟨6, node, inc, ses, tx, seq, key, lo, hi, has, data, hit, 0, n, W, K⟩ wp wq kp kq := by
  refine ⟨⟨6, 0, 0, 0, tx, seq, ⟨#[]⟩, lo, hi, has, data, false, 0, 0, [], []⟩, none, 0, none, 0, ?_, fun w _ => lw0 w, fun w _ => ls0 w, fun w => o_only_6t node inc ses tx seq lo hi err n key data has hit wp kp W.length wq K.length kq w⟩
  rw [unM_iff]
  skip
  simp only [fullM, sz_emp, List.length_eq_zero_iff, Mg.mk.injEq]
  simp
  try (constructor <;> (intro h; simp_all))
theorem only_6f (node inc ses tx seq lo hi err n : Int) (key data : ByteArray) (has hit : Bool) (W : List Wt) (K : List ByteArray) (wp kp : Option Addr) (wq kq : Nat) (hz : (err == 0) = false) : OnlyOk ⟨6, node, inc, ses, tx, seq, key, lo, hi, has, data, hit, err, n, W, K⟩ wp wq kp kq := by
  refine ⟨⟨6, 0, 0, 0, tx, seq, ⟨#[]⟩, 0, 0, false, ⟨#[]⟩, false, err, 0, [], []⟩, none, 0, none, 0, ?_, fun w _ => lw0 w, fun w _ => ls0 w, fun w => o_only_6f node inc ses tx seq lo hi err n key data has hit wp kp W.length wq K.length kq w hz⟩
  rw [unM_iff]
  have hz2 : ¬ err = 0 := by simpa using hz
  simp only [fullM, sz_emp, List.length_eq_zero_iff, Mg.mk.injEq]
  simp [hz2]
  try (constructor <;> (intro h; simp_all))

theorem c_only (m : Mg) (hk : 1 ≤ m.kind ∧ m.kind ≤ 11) (wp : Option Addr) (wq : Nat) (kp : Option Addr) (kq : Nat) : OnlyOk m wp wq kp kq := by
  obtain ⟨kind, node, inc, ses, tx, seq, key, lo, hi, has, data, hit, err, n, W, K⟩ := m
  dsimp only at hk
  rcases (by omega : kind = 1 ∨ kind = 2 ∨ kind = 3 ∨ kind = 4 ∨ kind = 5 ∨ kind = 6 ∨ kind = 7 ∨ kind = 8 ∨ kind = 9 ∨ kind = 10 ∨ kind = 11) with rfl | rfl | rfl | rfl | rfl | rfl | rfl | rfl | rfl | rfl | rfl
  · exact only_1 node inc ses tx seq lo hi err n key data has hit W K wp kp wq kq
  · exact only_2 node inc ses tx seq lo hi err n key data has hit W K wp kp wq kq
  · exact only_3 node inc ses tx seq lo hi err n key data has hit W K wp kp wq kq
  · cases hit
    · exact only_4f node inc ses tx seq lo hi err n key data has false W K wp kp wq kq
    · exact only_4t node inc ses tx seq lo hi err n key data has true W K wp kp wq kq
  · exact only_5 node inc ses tx seq lo hi err n key data has hit W K wp kp wq kq
  · by_cases he : err = 0
    · subst he; exact only_6t node inc ses tx seq lo hi 0 n key data has hit W K wp kp wq kq
    · exact only_6f node inc ses tx seq lo hi err n key data has hit W K wp kp wq kq (by simpa using he)
  · exact only_7 node inc ses tx seq lo hi err n key data has hit W K wp kp wq kq
  · exact only_8 node inc ses tx seq lo hi err n key data has hit W K wp kp wq kq
  · exact only_9 node inc ses tx seq lo hi err n key data has hit W K wp kp wq kq
  · exact only_10 node inc ses tx seq lo hi err n key data has hit W K wp kp wq kq
  · exact only_11 node inc ses tx seq lo hi err n key data has hit W K wp kp wq kq

end Go.Proofs.Ytiklpifaaogcpaa
