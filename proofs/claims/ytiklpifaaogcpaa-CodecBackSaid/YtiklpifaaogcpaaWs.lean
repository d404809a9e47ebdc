/- What the reference writes; WireWrites. -/
import Derived.Test.YtiklpifaaogcpaaWq
import Derived.Test.YtiklpifaaogcpaaRdr
import Derived.Lib.AppendStr
import Derived.WalkKit
import Derived.WalkLawsBesides
import Derived.WalkSpells
import Derived.Below
import Derived.Deep.RegionHeld3
import Derived.Deep.QuietTactic
import Derived.BigQuiet
import Derived.Deep.DeepCutAuto
import Derived.Deep.DeepMust
import Derived.KernelRfl
import Derived.Lib.Hide
import Derived.Outline
import Derived.RegionTactic
import Derived.StillTailTactics
import Derived.Laws.IdiomStrings
namespace Go.Proofs.Ytiklpifaaogcpaa
open Go.RowKit Go.Cl
set_option maxRecDepth 100000
set_option linter.unusedVariables false
set_option linter.unusedSimpArgs false

open Go.Wr Go.Rdr
theorem ref_bool (w : World) (x : Bool) : Calls Try.prog 27 #[.bool x] w fun e w' => e = .returned (.string ⟨(bol x).toArray⟩) ∧ w = w' := by
  cases x
  all_goals
    go_enter Try.func27, Try.ntmps27
    go_wp2
    go_ret
    exact ⟨rfl, rfl⟩
theorem ba_append (l : List UInt8) (s : ByteArray) : (⟨l.toArray⟩ : ByteArray) ++ s = ⟨(l ++ s.data.toList).toArray⟩ := by
  apply ByteArray.ext
  apply Array.toList_inj.1
  simp [ByteArray.data_append]
theorem ref_text (w : World) (s : ByteArray) (hs : s.size ≤ maxLen) (hs2 : (txt s.data.toList).length ≤ 140737488355328) : Calls Try.prog 26 #[.string s] w fun e w' => e = .returned (.string ⟨(txt s.data.toList).toArray⟩) ∧ Below w.heap.size w w' := by
  have hn := ref_num w s.size (by omega) (by unfold maxLen at hs; omega)
  have hl : s.data.toList.length = s.size := by simp
  unfold txt at hs2 ⊢
  rw [List.length_append] at hs2
  rw [hl] at hs2 ⊢
  have hs3 : ¬ 9223372036854775807 < (num (zz s.size)).length + s.size := by omega
  have HN := Lib.hid hn; clear hn hl hs hs2
  go_enter Try.func26, Try.ntmps26
  go_wp2_with (go_at_call 23; refine HN.out.mono ?_; rintro e w1 ⟨rfl, hb⟩)
  go_ret
  exact ⟨by rw [ba_append]; rfl, hb⟩
end Go.Proofs.Ytiklpifaaogcpaa
