/- Same: laws. -/
import Derived.Test.YtiklpifaaogcpaaKsm
import Derived.Test.YtiklpifaaogcpaaKz
import Derived.WalkKit
import Derived.WalkLawsBesides
import Derived.WalkSpells
import Derived.Below
import Derived.Deep.RegionHeld3
import Derived.Deep.QuietTactic
import Derived.BigQuiet
import Derived.Deep.DeepCutAuto
import Derived.Deep.DeepMust
import Derived.KernelRfl
import Derived.Lib.Hide
import Derived.Outline
import Derived.RegionTactic
import Derived.StillTailTactics
import Derived.Laws.IdiomStrings
import Derived.Handy
namespace Go.Proofs.Ytiklpifaaogcpaa
open Go.RowKit Go.Cl Go.Wr Go.Kc
set_option maxRecDepth 100000
set_option linter.unusedVariables false
set_option linter.unusedSimpArgs false


def RetF (w : World) : Ending → World → Prop := fun e w' => e = .returned (.bool false) ∧ Below w.heap.size w w'
theorem size_al (w : World) (o : Obj) : (w.alloc o).heap.size = w.heap.size + 1 := by unfold World.alloc; exact Array.size_push ..
theorem ne_bytes {x y : ByteArray} (h : ¬ x = y) : (x.toList == y.toList) = false := by
  have : x.toList ≠ y.toList := fun e => h (by rw [ByteArray.toList_eq, ByteArray.toList_eq] at e; exact ByteArray.ext (Array.toList_inj.1 e))
  simpa using this

end Go.Proofs.Ytiklpifaaogcpaa
