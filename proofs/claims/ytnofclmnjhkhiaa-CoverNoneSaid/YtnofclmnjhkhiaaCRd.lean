/- How the laws' arguments read; how long a script may be. -/
import Derived.Test.YtnofclmnjhkhiaaRdr
import Derived.Test.YtnofclmnjhkhiaaCl
import Derived.SizedLaws
import Derived.WalkKit
import Derived.ProofKit
import Derived.OpenShut
import Derived.Lib.SmallJoins
namespace Go.Proofs.Ytnofclmnjhkhiaa
open Go.RowKit Go.Cl Go.Rdr Go.ChangeShapes Go.WideShapes Go.ChangeAt
theorem Try.cells27 : Try.prog.cellsOf 27 = 4 := by kernel_rfl
theorem Try.cells4 : Try.prog.cellsOf 4 = 1 := by kernel_rfl
theorem Try.cells2 : Try.prog.cellsOf 2 = 1 := by kernel_rfl
theorem Try.bytes27 : Try.prog.bytesOf 27 = 32 := by kernel_rfl
def OpC (x : Bool × Int × Int × Int) (cs : List Value) : Prop := cs = [.bool x.1, .int .i64 x.2.1, .int .i64 x.2.2.1, .int .i64 x.2.2.2]
theorem rd_op {H : Type} {enc : TypeId × Value → H} {w : World} {base : Nat} {spare : Nat → Bool} {held : Bool} : Rd enc Try.prog w base spare held 27 OpC :=
  rd_mono (rd_struct4 Try.underlying27 (rd_bool Try.underlying4) (rd_int Try.underlying2) (rd_int Try.underlying2) (rd_int Try.underlying2)) (by
    rintro ⟨B, L, I, X⟩ cs ⟨hl, h0, ⟨h1, _⟩, ⟨h2, _⟩, ⟨h3, _⟩⟩
    rw [Try.cells27] at hl
    match cs, hl with
    | [a, b, c, d], _ =>
      simp [Rdr.part, Try.cells4, Try.cells2] at h0 h1 h2 h3
      subst h0 h1 h2 h3
      rfl)
theorem slIs_ops {w : World} {base : Nat} {v : Value} {l : List (Bool × Int × Int × Int)} (hs : SlIs w base 4 OpC v l) : OpsR w v l := by
  obtain ⟨p, c, rfl, _, _, hx⟩ := hs
  refine ⟨p, c, rfl, fun i o ho => ?_⟩
  obtain ⟨hi, e⟩ := List.getElem?_eq_some_iff.1 ho
  obtain ⟨b, f, cs, hp, _, hb, hl, hr, hc⟩ := hx i hi
  have h1 : cs = [.bool o.1, .int .i64 o.2.1, .int .i64 o.2.2.1, .int .i64 o.2.2.2] := by rw [← e]; exact hr
  subst h1
  exact ⟨b, f, hp, hb, hc 0 (by omega), hc 1 (by omega), hc 2 (by omega), hc 3 (by omega)⟩
/-- The form's own reach, for a slice that came in. -/
theorem slice_reach {H : Type} {enc : TypeId × Value → H} {P : Program} {w : World} {base : Nat} {spare : Nat → Bool} {held : Bool} {ts : List TypeId} {ds : List (DataW H)} {t e : TypeId} {p : Option Addr} {n c : Nat} {d : DataW H} {ps : List MemPlace} {j : Nat}
    (h : (DataW.weightsEach P ts ds).all (· ≤ reachBytes) = true) (ht : ts[j]? = some t) (hd : ds[j]? = some d) (hu : P.underlying t = some (.slice e)) (hT : DataW.Trod enc P w base spare held t (.slice p n c) d ps) : n * P.bytesOf e ≤ reachBytes := by
  obtain ⟨fuel, hf⟩ := hT
  rcases Go.Deep.open_slice hu hf with ⟨h1, h2⟩ | ⟨a, len, cap, m, n', D, Pl, h1, _, h3, _, h4, h2, _⟩
  · simp [Value.cells] at h1
    rw [h1.2.1, Nat.zero_mul]; exact Nat.zero_le _
  · simp [Value.cells] at h1
    simp only [Prod.mk.injEq] at h2
    have e1 := h2.1
    subst e1
    have := sized_slice h ht hd hu
    simp only [List.length_map, List.length_range] at this
    rw [h1.2.1]
    refine Nat.le_trans (Nat.mul_le_mul_right _ ?_) this
    omega
end Go.Proofs.Ytnofclmnjhkhiaa
