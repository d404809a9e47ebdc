/- How much the things that are written read as. -/
import Derived.Test.YtineekhpbglnhaaBk
import Derived.Test.YtineekhpbglnhaaWs
namespace Go.Proofs.Ytineekhpbglnhaa
open Go.RowKit Go.Cl Go.Rdr Go.Wr
def opCost (x : OpT) : Nat := x.2.2.1.size + 1
theorem rdk_op {H : Type} {enc : TypeId × Value → H} {w : World} {base : Nat} {spare : Nat → Bool} {held : Bool} : RdK enc Try.prog w base spare held 43 OpR opCost :=
  rdk_mono (rdk_struct4 Try.underlying43 (rdk_of (rd_int Try.underlying5)) (rdk_of (rd_int Try.underlying2)) (rdk_string Try.underlying9) (rdk_of (rd_int Try.underlying3))) (by
    rintro ⟨K, I, S, M⟩ cs ⟨hl, ⟨h0, k0, k1⟩, ⟨h1, i0, i1⟩, ⟨h2, s0⟩, ⟨h3, _⟩⟩
    rw [Try.cells43] at hl
    match cs, hl with
    | [a, b, c, d], _ =>
      simp [Rdr.part, Try.cells5, Try.cells2, Try.cells3, Try.cells9] at h0 h1 h2 h3
      subst h0 h1 h2 h3
      have k2 : K ≤ 255 := k1
      have k3 : 0 ≤ K := k0
      have i2 : I ≤ 9223372036854775807 := i1
      have i3 : -9223372036854775808 ≤ I := i0
      exact ⟨rfl, k3, by simp only; omega, i3, i2, s0⟩) (by intro x; unfold opCost; omega)
theorem encT_len (x : OpT) (k0 : 0 ≤ x.1) (n1 : -9223372036854775808 ≤ x.2.1) (n2 : x.2.1 ≤ 9223372036854775807) (sz : x.2.2.1.size ≤ maxLen) : (encT x).length ≤ 11 * opCost x := by
  unfold maxLen at sz
  unfold opCost
  obtain ⟨K, I, S, M⟩ := x
  simp only at k0 n1 n2 sz ⊢
  have hk4 : K % 4 = 0 ∨ K % 4 = 1 ∨ K % 4 = 2 ∨ K % 4 = 3 := by omega
  unfold encT
  rcases hk4 with h | h | h | h
  · rw [enc_0 (o := thing K I S M) h]
    have := num_len_10 (zz_lt n1 n2)
    simp only [thing]; omega
  · rw [enc_1 (o := thing K I S M) h]
    unfold bol; split <;> simp <;> omega
  · rw [enc_2 (o := thing K I S M) h]
    simp only [thing, txt, List.length_append]
    have hl : S.data.toList.length = S.size := by simp
    rw [hl]
    have := num_len_10 (zz_lt (n := (S.size : Int)) (by omega) (by omega))
    omega
  · rw [enc_3 (o := thing K I S M) h]; simp
theorem encs_len_of : ∀ (l : List OpT), (∀ i (h : i < l.length), ∃ cs, OpR l[i] cs) → (encs l).length ≤ 11 * costs opCost l
  | [], _ => by simp [encs, costs]
  | x :: l, h => by
    obtain ⟨cs, hx, k0, k1, n1, n2, sz⟩ := h 0 (by simp)
    have h1 := encT_len x k0 n1 n2 sz
    have h2 := encs_len_of l (fun i hi => h (i + 1) (by simp; omega))
    unfold encs costs at h2 ⊢
    simp only [List.flatMap_cons, List.length_append, List.map_cons, List.sum_cons]
    omega
theorem encs_len {w : World} {base : Nat} {v : Value} {l : List OpT} (hs : SlIs w base 4 OpR v l) : (encs l).length ≤ 11 * costs opCost l := by
  obtain ⟨p, c, rfl, _, _, hx⟩ := hs
  exact encs_len_of l (fun i hi => by obtain ⟨b, o, cs, _, _, _, _, h, _⟩ := hx i hi; exact ⟨cs, h⟩)
theorem encs_small {w : World} {base : Nat} {v : Value} {l : List OpT} (hs : SlIs w base 4 OpR v l) {n : Nat} (h1 : costs opCost l + 1 ≤ n) (h2 : n ≤ 1048576) : (encs l).length ≤ 140737488355328 := by
  have := encs_len hs; omega
end Go.Proofs.Ytineekhpbglnhaa
