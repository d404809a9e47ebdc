/- How the arguments of Recent's laws read. -/
import Derived.Test.YtgacbfbjikjanaaRec12
namespace Go.Proofs.Ytgacbfbjikjanaa
open Go.RowKit Go.Cl Go.Rdr
theorem Try.cells2 : Try.prog.cellsOf 2 = 1 := by kernel_rfl
theorem Try.cells9 : Try.prog.cellsOf 9 = 1 := by kernel_rfl
theorem Try.cells60 : Try.prog.cellsOf 60 = 4 := by kernel_rfl
theorem Try.cells32 : Try.prog.cellsOf 32 = 1 := by kernel_rfl
theorem rd_op8 {H : Type} {enc : TypeId × Value → H} {w : World} {base : Nat} {spare : Nat → Bool} {held : Bool} : Rd enc Try.prog w base spare held 60 (Op8R w base) :=
  rd_mono (rd_struct4 Try.underlying60 (rd_int Try.underlying2) (rd_slice Try.underlying32 Try.cells9 (by decide) (rd_string Try.underlying9)) (rd_string Try.underlying9) (rd_int Try.underlying2)) (by
    rintro ⟨K, I, S, J⟩ cs ⟨hl, ⟨h0, _⟩, ⟨v, h1, hv⟩, ⟨h2, _⟩, ⟨h3, _⟩⟩
    rw [Try.cells60] at hl
    match cs, hl with
    | [a, b, c, d], _ =>
      simp [Rdr.part, Try.cells2, Try.cells32, Try.cells9] at h0 h1 h2 h3
      subst h0 h1 h2 h3
      exact ⟨_, rfl, hv⟩)
end Go.Proofs.Ytgacbfbjikjanaa
