/- How the laws' arguments read. -/
import Derived.Test.YtineekhpbglnhaaRdr
import Derived.Test.YtineekhpbglnhaaWp
namespace Go.Proofs.Ytineekhpbglnhaa
open Go.RowKit Go.Cl Go.Rdr
theorem Try.cells43 : Try.prog.cellsOf 43 = 4 := by kernel_rfl
theorem Try.cells5 : Try.prog.cellsOf 5 = 1 := by kernel_rfl
theorem Try.cells2 : Try.prog.cellsOf 2 = 1 := by kernel_rfl
theorem Try.cells3 : Try.prog.cellsOf 3 = 1 := by kernel_rfl
theorem Try.cells9 : Try.prog.cellsOf 9 = 1 := by kernel_rfl
def OpR (x : Int × Int × ByteArray × Int) (cs : List Value) : Prop := cs = [.int .u8 x.1, .int .i64 x.2.1, .string x.2.2.1, .int .i64 x.2.2.2] ∧ 0 ≤ x.1 ∧ x.1 < 256 ∧ -9223372036854775808 ≤ x.2.1 ∧ x.2.1 ≤ 9223372036854775807 ∧ x.2.2.1.size ≤ maxLen
theorem rd_op {H : Type} {enc : TypeId × Value → H} {w : World} {base : Nat} {spare : Nat → Bool} {held : Bool} : Rd enc Try.prog w base spare held 43 OpR :=
  rd_mono (rd_struct4 Try.underlying43 (rd_int Try.underlying5) (rd_int Try.underlying2) (rd_string Try.underlying9) (rd_int Try.underlying3)) (by
    rintro ⟨K, I, S, M⟩ cs ⟨hl, ⟨h0, k0, k1⟩, ⟨h1, i0, i1⟩, ⟨h2, s0⟩, ⟨h3, _⟩⟩
    rw [Try.cells43] at hl
    match cs, hl with
    | [a, b, c, d], _ =>
      simp [Rdr.part, Try.cells5, Try.cells2, Try.cells3, Try.cells9] at h0 h1 h2 h3
      subst h0 h1 h2 h3
      have k2 : K ≤ 255 := k1
      have k3 : 0 ≤ K := k0
      have i2 : I ≤ 9223372036854775807 := i1
      have i3 : -9223372036854775808 ≤ I := i0
      exact ⟨rfl, k3, by simp only; omega, i3, i2, s0⟩)
end Go.Proofs.Ytineekhpbglnhaa
