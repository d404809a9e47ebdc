/- Arguments opened: what a value that reads as data looks like in memory. Laws on readings alone; no program in sight. -/
import Derived.Deep.Slices
import Derived.Deep.Fields
import Derived.ChangeSame
import Derived.Below
namespace Go.Rdr
open Go Go.RowKit Go.ChangeShapes Go.WideShapes Go.Deep

/-- Whatever reads at type e is the cells of some a, as R says. -/
def Rd {H : Type} (enc : TypeId × Value → H) (P : Program) (w : World) (base : Nat) (spare : Nat → Bool) (held : Bool) {α : Type} (e : TypeId) (R : α → List Value → Prop) : Prop :=
  ∀ fuel cs x, DataW.trod enc P w base spare held fuel e cs = some x → ∃ a, R a cs

section
variable {H : Type} {enc : TypeId × Value → H} {P : Program} {w : World} {base : Nat} {spare : Nat → Bool} {held : Bool} {α β γ δ ε ζ : Type} {e t : TypeId}
theorem rd_string (he : P.underlying e = some .string) : Rd enc P w base spare held e (fun (s : ByteArray) cs => cs = [.string s] ∧ s.size ≤ maxLen) := by
  intro fuel cs x h
  obtain ⟨s, h1, _, h3⟩ := DataW.trod_string he h
  exact ⟨s, h1, h3⟩
theorem rd_bool (he : P.underlying e = some .bool) : Rd enc P w base spare held e (fun (b : Bool) cs => cs = [.bool b]) := by
  intro fuel cs x h
  obtain ⟨b, h1, _⟩ := DataW.trod_bool he h
  exact ⟨b, h1⟩
theorem rd_int {k : IntKind} (he : P.underlying e = some (.int k)) : Rd enc P w base spare held e (fun (n : Int) cs => cs = [.int k n] ∧ k.min ≤ n ∧ n ≤ k.max) := by
  intro fuel cs x h
  obtain ⟨n, h1, _, h3⟩ := DataW.trod_int he h
  simp only [Lit.wf, Bool.and_eq_true, decide_eq_true_eq] at h3
  exact ⟨n, h1, h3⟩
theorem rd_mono {R S : α → List Value → Prop} (h : Rd enc P w base spare held e R) (hm : ∀ a cs, R a cs → S a cs) : Rd enc P w base spare held e S := fun f cs x hx => by
  obtain ⟨a, ha⟩ := h f cs x hx
  exact ⟨a, hm a cs ha⟩
/-- The cells of a field. -/
def part (cs : List Value) (o n : Nat) : List Value := (cs.drop o).take n
theorem rd_struct2 {f0 f1 : Field} {R0 : α → List Value → Prop} {R1 : β → List Value → Prop} (he : P.underlying e = some (.struct #[f0, f1]))
    (h0 : Rd enc P w base spare held f0.type R0) (h1 : Rd enc P w base spare held f1.type R1) :
    Rd enc P w base spare held e (fun (x : α × β) cs => cs.length = P.cellsOf e ∧ R0 x.1 (part cs f0.offset (P.cellsOf f0.type)) ∧ R1 x.2 (part cs f1.offset (P.cellsOf f1.type))) := by
  intro fuel cs x h
  obtain ⟨xs, n, _, _, hl, hxl, hf⟩ := DataW.trod_struct he h
  have g0 := hf 0 f0 rfl
  have g1 := hf 1 f1 rfl
  simp only [List.size_toArray, List.length_cons, List.length_nil] at hxl
  match xs, hxl with
  | [y0, y1], _ =>
    obtain ⟨a, ha⟩ := h0 _ _ _ g0
    obtain ⟨b, hb⟩ := h1 _ _ _ g1
    exact ⟨(a, b), hl, ha, hb⟩
theorem rd_struct3 {f0 f1 f2 : Field} {R0 : α → List Value → Prop} {R1 : β → List Value → Prop} {R2 : γ → List Value → Prop} (he : P.underlying e = some (.struct #[f0, f1, f2]))
    (h0 : Rd enc P w base spare held f0.type R0) (h1 : Rd enc P w base spare held f1.type R1) (h2 : Rd enc P w base spare held f2.type R2) :
    Rd enc P w base spare held e (fun (x : α × β × γ) cs => cs.length = P.cellsOf e ∧ R0 x.1 (part cs f0.offset (P.cellsOf f0.type)) ∧ R1 x.2.1 (part cs f1.offset (P.cellsOf f1.type)) ∧ R2 x.2.2 (part cs f2.offset (P.cellsOf f2.type))) := by
  intro fuel cs x h
  obtain ⟨xs, n, _, _, hl, hxl, hf⟩ := DataW.trod_struct he h
  have g0 := hf 0 f0 rfl
  have g1 := hf 1 f1 rfl
  have g2 := hf 2 f2 rfl
  simp only [List.size_toArray, List.length_cons, List.length_nil] at hxl
  match xs, hxl with
  | [y0, y1, y2], _ =>
    obtain ⟨a, ha⟩ := h0 _ _ _ g0
    obtain ⟨b, hb⟩ := h1 _ _ _ g1
    obtain ⟨c, hc⟩ := h2 _ _ _ g2
    exact ⟨(a, b, c), hl, ha, hb, hc⟩
theorem rd_struct4 {f0 f1 f2 f3 : Field} {R0 : α → List Value → Prop} {R1 : β → List Value → Prop} {R2 : γ → List Value → Prop} {R3 : δ → List Value → Prop} (he : P.underlying e = some (.struct #[f0, f1, f2, f3]))
    (h0 : Rd enc P w base spare held f0.type R0) (h1 : Rd enc P w base spare held f1.type R1) (h2 : Rd enc P w base spare held f2.type R2) (h3 : Rd enc P w base spare held f3.type R3) :
    Rd enc P w base spare held e (fun (x : α × β × γ × δ) cs => cs.length = P.cellsOf e ∧ R0 x.1 (part cs f0.offset (P.cellsOf f0.type)) ∧ R1 x.2.1 (part cs f1.offset (P.cellsOf f1.type)) ∧ R2 x.2.2.1 (part cs f2.offset (P.cellsOf f2.type)) ∧ R3 x.2.2.2 (part cs f3.offset (P.cellsOf f3.type))) := by
  intro fuel cs x h
  obtain ⟨xs, n, _, _, hl, hxl, hf⟩ := DataW.trod_struct he h
  have g0 := hf 0 f0 rfl
  have g1 := hf 1 f1 rfl
  have g2 := hf 2 f2 rfl
  have g3 := hf 3 f3 rfl
  simp only [List.size_toArray, List.length_cons, List.length_nil] at hxl
  match xs, hxl with
  | [y0, y1, y2, y3], _ =>
    obtain ⟨a, ha⟩ := h0 _ _ _ g0
    obtain ⟨b, hb⟩ := h1 _ _ _ g1
    obtain ⟨c, hc⟩ := h2 _ _ _ g2
    obtain ⟨d, hd⟩ := h3 _ _ _ g3
    exact ⟨(a, b, c, d), hl, ha, hb, hc, hd⟩

/-- A slice's value v that reads as the list L: each element's s cells are as R says. -/
def SlIs (w : World) (base s : Nat) (R : α → List Value → Prop) (v : Value) (L : List α) : Prop :=
  ∃ p c, v = .slice p L.length c ∧ L.length ≤ c ∧ c ≤ maxLen ∧ ∀ i (h : i < L.length), ∃ b o cs, p = some ⟨b, o, none⟩ ∧ base ≤ b ∧ b < w.heap.size ∧ cs.length = s ∧ R L[i] cs ∧ ∀ j, j < s → w.cell? ⟨b, o + i * s + j, none⟩ = cs[j]?
theorem list_of {n : Nat} {p : Nat → α → Prop} (h : ∀ i, i < n → ∃ x, p i x) : ∃ L : List α, L.length = n ∧ ∀ i (hi : i < L.length), p i L[i] := by
  induction n with
  | zero => exact ⟨[], rfl, fun i hi => by simp at hi⟩
  | succ n ih =>
    obtain ⟨L, hl, hL⟩ := ih (fun i hi => h i (by omega))
    obtain ⟨x, hx⟩ := h n (by omega)
    refine ⟨L ++ [x], by simp [hl], fun i hi => ?_⟩
    rw [List.getElem_append]
    split
    · exact hL i _
    · have : i = n := by simp at hi; omega
      subst this
      simp [hl]; exact hx
theorem rd_slice {s : Nat} {R : α → List Value → Prop} (ht : P.underlying t = some (.slice e)) (hc : P.cellsOf e = s) (hs : 0 < s) (hr : Rd enc P w base spare held e R) :
    Rd enc P w base spare held t (fun (L : List α) cs => ∃ v, cs = [v] ∧ SlIs w base s R v L) := by
  intro fuel cs x h
  rcases open_slice ht h with ⟨rfl, _⟩ | ⟨a, len, cap, m, n, D, Pl, rfl, hb, hl, hm, hmm, _, hi⟩
  · exact ⟨[], _, rfl, none, 0, rfl, Nat.le_refl _, Nat.zero_le _, fun i h => by simp at h⟩
  · have hlm : len ≤ m := by rw [hmm]; split <;> omega
    have each : ∀ i, i < len → ∃ y : α, ∃ b o cs, a = ⟨b, o, none⟩ ∧ base ≤ b ∧ b < w.heap.size ∧ cs.length = s ∧ R y cs ∧ ∀ j, j < s → w.cell? ⟨b, o + i * s + j, none⟩ = cs[j]? := by
      intro i hil
      obtain ⟨cs', hcs, htr⟩ := hi i (by omega)
      obtain ⟨y, hy⟩ := hr _ _ _ htr
      rw [hc] at hcs
      obtain ⟨hbb, hcl, hat⟩ := World.cells?_some hcs
      have h0 : w.cell? ((a.add (i * s)).add 0) = some (cs'[0]'(by omega)) := by
        rw [hat 0 hs]; simp
      have hlt := World.block_lt_of_cell? w _ h0
      have hspot : (a.add (i * s)).spot = none := by
        rw [Addr.add_zero'] at h0
        unfold World.cell? at h0
        cases hsp : (a.add (i * s)).spot with
        | none => rfl
        | some q => split at h0 <;> simp [hsp] at h0
      have h00 := hi 0 (by omega)
      obtain ⟨cs0, hcs0, _⟩ := h00
      rw [hc] at hcs0
      obtain ⟨_, hcl0, hat0⟩ := World.cells?_some hcs0
      have h1 : w.cell? ((a.add (0 * s)).add 0) = some (cs0[0]'(by omega)) := by rw [hat0 0 hs]; simp
      rw [Nat.zero_mul, Addr.add_zero', Addr.add_zero'] at h1
      have hspa : a.spot = none := by
        unfold World.cell? at h1
        cases hsp : a.spot with
        | none => rfl
        | some q => split at h1 <;> simp [hsp] at h1
      obtain ⟨b, o, sp⟩ := a
      simp only at hspa
      subst hspa
      refine ⟨y, b, o, cs', rfl, hb, ?_, hcl, hy, fun j hj => ?_⟩
      · rw [Addr.add_lit, Addr.add_lit] at hlt; exact hlt
      · have := hat j hj
        rwa [Addr.add_lit, Addr.add_lit] at this
    obtain ⟨L, hL, hp⟩ := list_of each
    refine ⟨L, _, rfl, some a, cap, by rw [hL], by omega, hm, fun i h => ?_⟩
    obtain ⟨b, o, cs, rfl, h1, h2, h3, h4, h5⟩ := hp i h
    exact ⟨b, o, cs, rfl, h1, h2, h3, h4, h5⟩
/-- A parameter that is a slice. -/
theorem open_arg_slice {s : Nat} {R : α → List Value → Prop} (ht : P.underlying t = some (.slice e)) (hc : P.cellsOf e = s) (hs : 0 < s) (hr : Rd enc P w base spare held e R) {r : Reach} {b0 : Nat} {v : Value} {d : DataW H} {ps : List MemPlace}
    (hv : Value.okWide P w r b0 t v) (hd : DataW.Trod enc P w base spare held t v d ps) : ∃ L : List α, SlIs w base s R v L := by
  obtain ⟨fuel, hf⟩ := hd
  obtain ⟨L, u, hu, hL⟩ := rd_slice ht hc hs hr _ _ _ hf
  have hvu : v = u := by
    simp only [Value.okWide, ht, Cell.okWide] at hv
    cases v <;> simp_all [Value.cells, Cell.ok]
  subst hvu
  exact ⟨L, hL⟩
/-- What a slice reads as behind a step that leaves all that was there as it was. -/
theorem SlIs.at {s : Nat} {R : α → List Value → Prop} {v : Value} {L : List α} (h : SlIs w base s R v L) {w1 : World} (hb : Below w.heap.size w w1) (i : Nat) (hi : i < L.length) :
    ∃ b o c cs, v = .slice (some ⟨b, o, none⟩) L.length c ∧ L.length ≤ c ∧ c ≤ maxLen ∧ cs.length = s ∧ R L[i] cs ∧ b < w.heap.size ∧ ∀ j, j < s → w1.cell? ⟨b, o + i * s + j, none⟩ = cs[j]? := by
  obtain ⟨p, c, rfl, hc, hm, hx⟩ := h
  obtain ⟨b, o, cs, rfl, h1, h2, h3, h4, h5⟩ := hx i hi
  exact ⟨b, o, c, cs, rfl, hc, hm, h3, h4, h2, fun j hj => by rw [hb.cell (p := ⟨b, o + i * s + j, none⟩) h2]; exact h5 j hj⟩
theorem SlIs.form {s : Nat} {R : α → List Value → Prop} {v : Value} {L : List α} (h : SlIs w base s R v L) : ∃ p c, v = .slice p L.length c ∧ L.length ≤ c ∧ c ≤ maxLen := by
  obtain ⟨p, c, rfl, hc, hm, hx⟩ := h
  exact ⟨p, c, rfl, hc, hm⟩
/-- A parameter that is a struct, by value. -/
theorem open_arg_agg {R : α → List Value → Prop} {fs : Array Field} (ht : P.underlying t = some (.struct fs)) (hr : Rd enc P w base spare held t R) {r : Reach} {b0 : Nat} {v : Value} {d : DataW H} {ps : List MemPlace}
    (hv : Value.okWide P w r b0 t v) (hd : DataW.Trod enc P w base spare held t v d ps) : ∃ (a : α) (cs : List Value), v = .agg cs.toArray ∧ R a cs := by
  obtain ⟨cs, rfl, _⟩ := okWide_struct ht hv
  obtain ⟨fuel, hf⟩ := hd
  obtain ⟨a, ha⟩ := hr _ _ _ hf
  exact ⟨a, cs.toList, by simp, by simpa [Value.cells] using ha⟩
end
end Go.Rdr
