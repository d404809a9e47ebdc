/- How much the operations of RecentClones read as. -/
import Derived.Test.YtgacbfbjikjanaaRecBulk
import Derived.Test.YtgacbfbjikjanaaRec17
namespace Go.Proofs.Ytgacbfbjikjanaa
open Go.RowKit Go.Cl Go.Rdr Go.Deep Go.WideShapes Go.ChangeShapes
theorem bulk_ops {H : Type} {enc : TypeId × Value → H} {w : World} {base : Nat} {spare : Nat → Bool} {held : Bool} {v : Value} {d : DataW H} {ps : List MemPlace} (hd : DataW.Trod enc Try.prog w base spare held 53 v d ps)
    (a : List Op8) (hs : SlIs w base 4 (Op8R w base) v a) : ∀ k (h : k < a.length), (a[k].2.1).length ≤ Rows.uptoBulk d := by
  have hs0 := hs
  obtain ⟨p, c, rfl, hlc, hcm⟩ := hs.form
  obtain ⟨fuel, hf⟩ := hd
  have hf' : DataW.trod enc Try.prog w base spare held fuel 53 [.slice p a.length c] = some (d, ps) := by simpa [Value.cells] using hf
  obtain ⟨_, h2⟩ := bulk_slice Try.underlying53 hf'
  intro k hk
  obtain ⟨bs, os, kv, rfl, q0, q1, q2, q3, hkeys⟩ := op8_at hs0 (Below.refl _ _) k hk
  obtain ⟨A, cs', f, y, ha, hc1, hc2, hc3⟩ := h2 k hk
  simp only [Option.some.injEq] at ha
  subst ha
  rw [Try.cells60] at hc1
  obtain ⟨_, hcl, hat⟩ := World.cells?_some hc1
  have h0 := hat 1 (by omega)
  rw [Addr.add_lit, Addr.add_lit, q1] at h0
  obtain ⟨pv, cv, rfl, _, _⟩ := hkeys.form
  obtain ⟨xs, n, _, hy, hl, hxl, hfs⟩ := DataW.trod_struct Try.underlying60 hc2
  have g1 := hfs 1 _ rfl
  generalize a[k].2.1 = ks at *
  match cs', hcl with
  | [u0, u1, u2, u3], _ =>
    simp at h0
    subst h0
    have e1 : (([u0, Value.slice pv ks.length cv, u2, u3] : List Value).drop 1).take (Try.prog.cellsOf 32) = [.slice pv ks.length cv] := by rw [Try.cells32]; rfl
    match xs, hxl with
    | [y0, y1, y2, y3], _ =>
      have g1' : DataW.trod enc Try.prog w base spare held n 32 [.slice pv ks.length cv] = some y1 := by rw [← e1]; exact g1
      obtain ⟨h3, _⟩ := bulk_slice Try.underlying32 g1'
      have hp2 := bulk_pos y1.1
      have h5 : Rows.uptoBulk y1.1 ≤ Rows.uptoBulk y.1 := by
        rw [hy]; simp only [List.map_cons, List.map_nil, Rows.uptoBulk, Rows.uptoBulkAll]; omega
      simp only at hc3
      split at h3 <;> omega
end Go.Proofs.Ytgacbfbjikjanaa
