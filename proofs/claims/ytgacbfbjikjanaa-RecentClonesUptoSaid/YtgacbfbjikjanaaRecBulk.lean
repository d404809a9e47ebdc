/- How much the lists of RecentHolds read as. -/
import Derived.Test.YtgacbfbjikjanaaRecRd
import Derived.Test.YtgacbfbjikjanaaRec15
import Derived.Test.YtgacbfbjikjanaaRows
namespace Go.Proofs.Ytgacbfbjikjanaa
open Go.RowKit Go.Cl Go.Rdr Go.Deep Go.WideShapes
theorem bulk_pos {H : Type} (d : DataW H) : 1 ≤ Rows.uptoBulk d := by
  cases d with
  | lit l => cases l <;> simp [Rows.uptoBulk]
  | _ => simp [Rows.uptoBulk]
theorem bulk_len {H : Type} (ds : List (DataW H)) : ds.length ≤ Rows.uptoBulkAll ds := by
  induction ds with
  | nil => simp
  | cons d ds ih => have := bulk_pos d; simp [Rows.uptoBulkAll]; omega
theorem bulk_mem {H : Type} {ds : List (DataW H)} {d : DataW H} (h : d ∈ ds) : Rows.uptoBulk d ≤ Rows.uptoBulkAll ds := by
  induction ds with
  | nil => simp at h
  | cons x ds ih =>
    simp only [List.mem_cons] at h
    simp only [Rows.uptoBulkAll]
    rcases h with rfl | h
    · omega
    · have := ih h; omega
theorem bulk_slice {H : Type} {enc : TypeId × Value → H} {w : World} {base : Nat} {spare : Nat → Bool} {held : Bool} {t e : TypeId} {fuel : Nat} {p : Option Addr} {n c : Nat} {x : DataW H × List MemPlace}
    (ht : Try.prog.underlying t = some (.slice e)) (h : DataW.trod enc Try.prog w base spare held fuel t [.slice p n c] = some x) :
    n + 1 ≤ Rows.uptoBulk x.1 + (if n = 0 then 1 else 0) ∧ ∀ i, i < n → ∃ a cs' f y, p = some a ∧ w.cells? base (a.add (i * Try.prog.cellsOf e)) (Try.prog.cellsOf e) = some cs' ∧ DataW.trod enc Try.prog w base spare held f e cs' = some y ∧ Rows.uptoBulk y.1 ≤ Rows.uptoBulk x.1 := by
  rcases open_slice ht h with ⟨hcs, rfl⟩ | ⟨a, len, cap, m, f, D, Pl, hcs, hb, hl, hm, hmm, rfl, hi⟩
  · simp only [List.cons.injEq, Value.slice.injEq, and_true] at hcs
    obtain ⟨rfl, rfl, rfl⟩ := hcs
    exact ⟨by simp [Rows.uptoBulk], fun i hi => by omega⟩
  · simp only [List.cons.injEq, Value.slice.injEq, and_true] at hcs
    obtain ⟨rfl, rfl, rfl⟩ := hcs
    have h1 := bulk_len ((List.range n).map D)
    simp only [List.length_map, List.length_range] at h1
    refine ⟨by simp only [Rows.uptoBulk]; omega, fun i hin => ?_⟩
    have him : i < m := by rw [hmm]; split <;> omega
    obtain ⟨cs', h2, h3⟩ := hi i him
    have h4 : D i ∈ (List.range n).map D := List.mem_map.2 ⟨i, List.mem_range.2 hin, rfl⟩
    have h5 := bulk_mem h4
    exact ⟨a, cs', f, _, rfl, h2, h3, by simp only [Rows.uptoBulk]; omega⟩
theorem bulk_lists {H : Type} {enc : TypeId × Value → H} {w : World} {base : Nat} {spare : Nat → Bool} {held : Bool} {v : Value} {d : DataW H} {ps : List MemPlace} (hd : DataW.Trod enc Try.prog w base spare held 67 v d ps)
    (Ls : List (List ByteArray)) (hs : LsIs w base v Ls) : Ls.length ≤ Rows.uptoBulk d ∧ ∀ k, (Ls.getD k []).length ≤ Rows.uptoBulk d := by
  have hs0 := hs
  obtain ⟨p, c, rfl, hlc, hcm⟩ := hs.form
  obtain ⟨fuel, hf⟩ := hd
  have hf' : DataW.trod enc Try.prog w base spare held fuel 67 [.slice p Ls.length c] = some (d, ps) := by simpa [Value.cells] using hf
  obtain ⟨h1, h2⟩ := bulk_slice Try.underlying67 hf'
  have hp := bulk_pos d
  simp only at h1 h2
  refine ⟨by split at h1 <;> omega, fun k => ?_⟩
  by_cases hk : k < Ls.length
  · obtain ⟨bs, os, pv, cv, rfl, q0, hsk⟩ := list_at hs0 (Below.refl _ _) k hk
    obtain ⟨a, cs', f, y, ha, hc1, hc2, hc3⟩ := h2 k hk
    simp only [Option.some.injEq] at ha
    subst ha
    rw [Try.cells32] at hc1
    obtain ⟨_, hcl, hat⟩ := World.cells?_some hc1
    have h0 := hat 0 (by omega)
    rw [Addr.add_lit, Addr.add_lit] at h0
    rw [show os + k * 1 + 0 = os + k by omega, q0] at h0
    generalize Ls.getD k [] = ks at *
    match cs', hcl with
    | [u], _ =>
      simp at h0
      subst h0
      obtain ⟨h3, _⟩ := bulk_slice Try.underlying32 hc2
      have hp2 := bulk_pos y.1
      split at h3 <;> omega
  · rw [show Ls.getD k [] = [] by simp [List.getD, hk]]; simp
theorem rd_lists {H : Type} {enc : TypeId × Value → H} {w : World} {base : Nat} {spare : Nat → Bool} {held : Bool} : Rd enc Try.prog w base spare held 32 (fun (ks : List ByteArray) cs => ∃ u, cs = [u] ∧ SlIs w base 1 StrR u ks) :=
  rd_slice Try.underlying32 Try.cells9 (by decide) (rd_string Try.underlying9)
end Go.Proofs.Ytgacbfbjikjanaa
