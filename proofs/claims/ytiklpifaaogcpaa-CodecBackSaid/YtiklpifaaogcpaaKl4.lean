/- The two lanes. -/
import Derived.Test.YtiklpifaaogcpaaKl2
import Derived.Test.YtiklpifaaogcpaaKl3
import Derived.WalkKit
import Derived.WalkLawsBesides
import Derived.WalkSpells
import Derived.Below
import Derived.Deep.RegionHeld3
import Derived.Deep.QuietTactic
import Derived.BigQuiet
import Derived.Deep.DeepCutAuto
import Derived.Deep.DeepMust
import Derived.KernelRfl
import Derived.Lib.Hide
import Derived.Outline
import Derived.RegionTactic
import Derived.StillTailTactics
import Derived.Laws.IdiomStrings
import Derived.Handy
namespace Go.Proofs.Ytiklpifaaogcpaa
open Go.RowKit Go.Cl Go.Wr Go.Kc
set_option maxRecDepth 100000
set_option linter.unusedVariables false
set_option linter.unusedSimpArgs false

theorem m_out_num (b : Nat) (w : World) : (method 261 52 (.pointer (some ⟨b, 0, none⟩)) "vouch/codec.num").run Try.prog w = .ok (92, .pointer (some ⟨b, 0, none⟩)) w := by kernel_rfl
theorem n_out_num (b : Nat) (w : World) : (nilAhead 261 52 (.pointer (some ⟨b, 0, none⟩)) "vouch/codec.num").run Try.prog w = .ok (some false) w := by kernel_rfl
theorem m_out_text (b : Nat) (w : World) : (method 261 52 (.pointer (some ⟨b, 0, none⟩)) "vouch/codec.text").run Try.prog w = .ok (93, .pointer (some ⟨b, 0, none⟩)) w := by kernel_rfl
theorem n_out_text (b : Nat) (w : World) : (nilAhead 261 52 (.pointer (some ⟨b, 0, none⟩)) "vouch/codec.text").run Try.prog w = .ok (some false) w := by kernel_rfl
theorem m_out_truth (b : Nat) (w : World) : (method 261 52 (.pointer (some ⟨b, 0, none⟩)) "vouch/codec.truth").run Try.prog w = .ok (94, .pointer (some ⟨b, 0, none⟩)) w := by kernel_rfl
theorem n_out_truth (b : Nat) (w : World) : (nilAhead 261 52 (.pointer (some ⟨b, 0, none⟩)) "vouch/codec.truth").run Try.prog w = .ok (some false) w := by kernel_rfl
theorem m_in_num (b : Nat) (w : World) : (method 261 84 (.agg #[.pointer (some ⟨b, 0, none⟩)]) "vouch/codec.num").run Try.prog w = .ok (101, .agg #[.pointer (some ⟨b, 0, none⟩)]) w := by kernel_rfl
theorem n_in_num (b : Nat) (w : World) : (nilAhead 261 84 (.agg #[.pointer (some ⟨b, 0, none⟩)]) "vouch/codec.num").run Try.prog w = .ok (some false) w := by kernel_rfl
theorem m_in_text (b : Nat) (w : World) : (method 261 84 (.agg #[.pointer (some ⟨b, 0, none⟩)]) "vouch/codec.text").run Try.prog w = .ok (102, .agg #[.pointer (some ⟨b, 0, none⟩)]) w := by kernel_rfl
theorem n_in_text (b : Nat) (w : World) : (nilAhead 261 84 (.agg #[.pointer (some ⟨b, 0, none⟩)]) "vouch/codec.text").run Try.prog w = .ok (some false) w := by kernel_rfl
theorem m_in_truth (b : Nat) (w : World) : (method 261 84 (.agg #[.pointer (some ⟨b, 0, none⟩)]) "vouch/codec.truth").run Try.prog w = .ok (103, .agg #[.pointer (some ⟨b, 0, none⟩)]) w := by kernel_rfl
theorem n_in_truth (b : Nat) (w : World) : (nilAhead 261 84 (.agg #[.pointer (some ⟨b, 0, none⟩)]) "vouch/codec.truth").run Try.prog w = .ok (some false) w := by kernel_rfl
theorem e_92 (a : Array Value) (w : World) : (callFunc 92 a).run Try.prog w = .ok (.enter 92 a) w := by kernel_rfl
theorem e_93 (a : Array Value) (w : World) : (callFunc 93 a).run Try.prog w = .ok (.enter 93 a) w := by kernel_rfl
theorem e_94 (a : Array Value) (w : World) : (callFunc 94 a).run Try.prog w = .ok (.enter 94 a) w := by kernel_rfl
theorem e_101 (a : Array Value) (w : World) : (callFunc 101 a).run Try.prog w = .ok (.enter 101 a) w := by kernel_rfl
theorem e_102 (a : Array Value) (w : World) : (callFunc 102 a).run Try.prog w = .ok (.enter 102 a) w := by kernel_rfl
theorem e_103 (a : Array Value) (w : World) : (callFunc 103 a).run Try.prog w = .ok (.enter 103 a) w := by kernel_rfl

noncomputable def outL (b : Nat) : Lane (List UInt8) where
  o := outO
  lt := 52
  lv := .pointer (some ⟨b, 0, none⟩)
  recv := .pointer (some ⟨b, 0, none⟩)
  fnum := 92
  ftext := 93
  fbool := 94
  LS := fun c W L => Wri c 1 W b L
  fit := fun L => L.length ≤ 140737488355328
  kept := fun h hm hi => h.kept hm hi
  mnum := m_out_num b
  mtext := m_out_text b
  mbool := m_out_truth b
  nnum := n_out_num b
  ntext := n_out_text b
  nbool := n_out_truth b
  enum := e_92
  etext := e_93
  ebool := e_94
  fit_num := fun n L h => by simp only [outO, List.length_append] at h; omega
  fit_text := fun t m L h => by simp only [outO, List.length_append] at h; omega
  fit_bool := fun y L h => by simp only [outO, List.length_append] at h; omega
  cnum := fun col w s i x k cs T n h hB hi hk n1 n2 hf => out_num b col w s i x k cs T n h hB hi hk n1 n2 hf
  ctext := fun col w s i x k cs T t m h hB hi hk hf => out_text b col w s i x k cs T t m h hB hi hk hf
  cbool := fun col w s i x k cs T y h hB hi hk hf => out_bool b col w s i x k cs T y h hB hi hk hf
noncomputable def inL (b : Nat) (sb : ByteArray) : Lane Nat where
  o := inO sb.data.toList
  lt := 84
  lv := .agg #[.pointer (some ⟨b, 0, none⟩)]
  recv := .agg #[.pointer (some ⟨b, 0, none⟩)]
  fnum := 101
  ftext := 102
  fbool := 103
  LS := fun c W p => Rds 126 c 1 W b sb ⟨p, 0⟩
  fit := fun _ => True
  kept := fun h hm hi => h.kept hm hi
  mnum := m_in_num b
  mtext := m_in_text b
  mbool := m_in_truth b
  nnum := n_in_num b
  ntext := n_in_text b
  nbool := n_in_truth b
  enum := e_101
  etext := e_102
  ebool := e_103
  fit_num := fun _ _ _ => trivial
  fit_text := fun _ _ _ _ => trivial
  fit_bool := fun _ _ _ => trivial
  cnum := fun col w s i x k cs T n h hB hi hk n1 n2 hf => in_num b sb col w s i x k cs T n h hB hi hk
  ctext := fun col w s i x k cs T t m h hB hi hk hf => in_text b sb col w s i x k cs T t m h hB hi hk
  cbool := fun col w s i x k cs T y h hB hi hk hf => in_bool b sb col w s i x k cs T y h hB hi hk

end Go.Proofs.Ytiklpifaaogcpaa
