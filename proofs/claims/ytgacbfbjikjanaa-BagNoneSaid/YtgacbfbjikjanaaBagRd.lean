/- How the laws' arguments read. -/
import Derived.Test.YtgacbfbjikjanaaRdr
import Derived.Test.YtgacbfbjikjanaaBag7
namespace Go.Proofs.Ytgacbfbjikjanaa
open Go.RowKit Go.Cl Go.Rdr
theorem Try.cells30 : Try.prog.cellsOf 30 = 3 := by kernel_rfl
theorem Try.cells43 : Try.prog.cellsOf 43 = 2 := by kernel_rfl
theorem Try.cells5 : Try.prog.cellsOf 5 = 1 := by kernel_rfl
theorem Try.cells3 : Try.prog.cellsOf 3 = 1 := by kernel_rfl
theorem Try.cells2 : Try.prog.cellsOf 2 = 1 := by kernel_rfl
theorem Try.cells9 : Try.prog.cellsOf 9 = 1 := by kernel_rfl
theorem rd_op {H : Type} {enc : TypeId × Value → H} {w : World} {base : Nat} {spare : Nat → Bool} {held : Bool} : Rd enc Try.prog w base spare held 30 OpR :=
  rd_mono (rd_struct3 Try.underlying30 (rd_int Try.underlying5) (rd_int Try.underlying3) (rd_string Try.underlying9)) (by
    rintro ⟨K, I, S⟩ cs ⟨hl, ⟨h0, k0, k1⟩, ⟨h1, _⟩, ⟨h2, _⟩⟩
    rw [Try.cells30] at hl
    match cs, hl with
    | [a, b, c], _ =>
      simp [Rdr.part, Try.cells5, Try.cells3, Try.cells9] at h0 h1 h2
      subst h0 h1 h2
      have k2 : K ≤ 255 := k1
      have k3 : 0 ≤ K := k0
      exact ⟨rfl, k3, by simp only; omega⟩)
end Go.Proofs.Ytgacbfbjikjanaa
