/- How the laws' arguments read. -/
import Derived.Test.YtficncmomgddpaaRdr
import Derived.Test.YtficncmomgddpaaPc
namespace Go.Proofs.Ytficncmomgddpaa
open Go.RowKit Go.Cl Go.Rdr
theorem Try.cells28 : Try.prog.cellsOf 28 = 8 := by kernel_rfl
theorem Try.cells26 : Try.prog.cellsOf 26 = 5 := by kernel_rfl
theorem Try.cells24 : Try.prog.cellsOf 24 = 2 := by kernel_rfl
theorem Try.cells9 : Try.prog.cellsOf 9 = 1 := by kernel_rfl
theorem Try.cells4 : Try.prog.cellsOf 4 = 1 := by kernel_rfl
theorem Try.cells2 : Try.prog.cellsOf 2 = 1 := by kernel_rfl
def EnR (x : (ByteArray × (Bool × ByteArray) × Int × Int) × Bool × Int × Int) (cs : List Value) : Prop := cs = (En.mk x.1.1 x.1.2.1.1 x.1.2.1.2 x.1.2.2.1 x.1.2.2.2 x.2.1 x.2.2.1 x.2.2.2).cs.toList
theorem rd_en {H : Type} {enc : TypeId × Value → H} {w : World} {base : Nat} {spare : Nat → Bool} {held : Bool} : Rd enc Try.prog w base spare held 28 EnR :=
  rd_mono (rd_struct4 Try.underlying28 (rd_struct4 Try.underlying26 (rd_string Try.underlying9) (rd_struct2 Try.underlying24 (rd_bool Try.underlying4) (rd_string Try.underlying9)) (rd_int Try.underlying2) (rd_int Try.underlying2)) (rd_bool Try.underlying4) (rd_int Try.underlying2) (rd_int Try.underlying2)) (by
    rintro ⟨⟨K, ⟨B, S⟩, L, I⟩, O, P, Q⟩ cs ⟨hl, ⟨hl1, ⟨h0, _⟩, ⟨hl2, h1, h2, _⟩, ⟨h3, _⟩, ⟨h4, _⟩⟩, h5, ⟨h6, _⟩, ⟨h7, _⟩⟩
    rw [Try.cells28] at hl
    match cs, hl with
    | [a, b, c, d, e, f, g, h], _ =>
      simp [Rdr.part, Try.cells26, Try.cells24, Try.cells9, Try.cells4, Try.cells2] at h0 h1 h2 h3 h4 h5 h6 h7
      subst h0 h1 h2 h3 h4 h5 h6 h7
      rfl)
end Go.Proofs.Ytficncmomgddpaa
