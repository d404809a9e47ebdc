/- How the laws' arguments read. -/
import Derived.Test.YtgacbfbjikjanaaRdr
import Derived.Test.YtgacbfbjikjanaaTh4
namespace Go.Proofs.Ytgacbfbjikjanaa
open Go.RowKit Go.Cl Go.Rdr
theorem Try.cells43' : Try.prog.cellsOf 43 = 2 := by kernel_rfl
theorem Try.cells2' : Try.prog.cellsOf 2 = 1 := by kernel_rfl
theorem Try.cells9' : Try.prog.cellsOf 9 = 1 := by kernel_rfl
theorem rd_thing {H : Type} {enc : TypeId × Value → H} {w : World} {base : Nat} {spare : Nat → Bool} {held : Bool} : Rd enc Try.prog w base spare held 43 ThR :=
  rd_mono (rd_struct2 Try.underlying43 (rd_int Try.underlying2) (rd_string Try.underlying9)) (by
    rintro ⟨I, S⟩ cs ⟨hl, ⟨h0, _⟩, ⟨h1, _⟩⟩
    rw [Try.cells43'] at hl
    match cs, hl with
    | [a, b], _ =>
      simp [Rdr.part, Try.cells2', Try.cells9'] at h0 h1
      subst h0 h1
      rfl)
end Go.Proofs.Ytgacbfbjikjanaa
