/- Readings with their bulk: what a value that reads as data looks like in memory, and how much it reads as. Laws on readings alone; no program in sight. -/
import Derived.Test.YtineekhpbglnhaaRows
import Derived.Test.YtineekhpbglnhaaRdr
namespace Go.Proofs.Ytineekhpbglnhaa
open Go Go.RowKit Go.ChangeShapes Go.WideShapes Go.Deep Go.Rdr
theorem bulk_pos {H : Type} (d : DataW H) : 1 ≤ Rows.uptoBulk d := by
  cases d with
  | lit l => cases l <;> simp [Rows.uptoBulk]
  | _ => simp [Rows.uptoBulk]
theorem bulk_append {H : Type} (a b : List (DataW H)) : Rows.uptoBulkAll (a ++ b) = Rows.uptoBulkAll a + Rows.uptoBulkAll b := by
  induction a with
  | nil => simp [Rows.uptoBulkAll]
  | cons x a ih => simp [Rows.uptoBulkAll, ih]; omega
theorem bulk_mem {H : Type} {ds : List (DataW H)} {d : DataW H} (h : d ∈ ds) : Rows.uptoBulk d ≤ Rows.uptoBulkAll ds := by
  induction ds with
  | nil => simp at h
  | cons x ds ih =>
    simp only [List.mem_cons] at h
    simp only [Rows.uptoBulkAll]
    rcases h with rfl | h
    · omega
    · have := ih h; omega
/-- Whatever reads at type e is the cells of some a, as R says, and reads as no less than the cost of a. -/
def RdK {H : Type} (enc : TypeId × Value → H) (P : Program) (w : World) (base : Nat) (spare : Nat → Bool) (held : Bool) {α : Type} (e : TypeId) (R : α → List Value → Prop) (cost : α → Nat) : Prop :=
  ∀ fuel cs x, DataW.trod enc P w base spare held fuel e cs = some x → ∃ a, R a cs ∧ cost a ≤ Rows.uptoBulk x.1
section
variable {H : Type} {enc : TypeId × Value → H} {P : Program} {w : World} {base : Nat} {spare : Nat → Bool} {held : Bool} {α β γ δ : Type} {e t : TypeId}
theorem rdk_string (he : P.underlying e = some .string) : RdK enc P w base spare held e (fun (s : ByteArray) cs => cs = [.string s] ∧ s.size ≤ maxLen) (fun s => s.size + 1) := by
  intro fuel cs x h
  obtain ⟨s, h1, h2, h3⟩ := DataW.trod_string he h
  refine ⟨s, ⟨h1, h3⟩, ?_⟩
  subst h2
  simp [Rows.uptoBulk]
theorem rdk_of {R : α → List Value → Prop} (h : Rd enc P w base spare held e R) : RdK enc P w base spare held e R (fun _ => 1) := by
  intro fuel cs x hx
  obtain ⟨a, ha⟩ := h fuel cs x hx
  exact ⟨a, ha, bulk_pos _⟩
theorem rdk_mono {R S : α → List Value → Prop} {c d : α → Nat} (h : RdK enc P w base spare held e R c) (hm : ∀ a cs, R a cs → S a cs) (hc : ∀ a, d a ≤ c a) : RdK enc P w base spare held e S d := fun f cs x hx => by
  obtain ⟨a, ha, hb⟩ := h f cs x hx
  exact ⟨a, hm a cs ha, Nat.le_trans (hc a) hb⟩
theorem rdk_struct2 {f0 f1 : Field} {R0 : α → List Value → Prop} {R1 : β → List Value → Prop} {c0 : α → Nat} {c1 : β → Nat} (he : P.underlying e = some (.struct #[f0, f1]))
    (h0 : RdK enc P w base spare held f0.type R0 c0) (h1 : RdK enc P w base spare held f1.type R1 c1) :
    RdK enc P w base spare held e (fun (x : α × β) cs => cs.length = P.cellsOf e ∧ R0 x.1 (Rdr.part cs f0.offset (P.cellsOf f0.type)) ∧ R1 x.2 (Rdr.part cs f1.offset (P.cellsOf f1.type))) (fun x => c0 x.1 + c1 x.2 + 1) := by
  intro fuel cs x h
  obtain ⟨xs, n, _, hx, hl, hxl, hf⟩ := DataW.trod_struct he h
  have g0 := hf 0 f0 rfl
  have g1 := hf 1 f1 rfl
  simp only [List.size_toArray, List.length_cons, List.length_nil] at hxl
  match xs, hxl with
  | [y0, y1], _ =>
    obtain ⟨a, ha, ka⟩ := h0 _ _ _ g0
    obtain ⟨b, hb, kb⟩ := h1 _ _ _ g1
    refine ⟨(a, b), ⟨hl, ha, hb⟩, ?_⟩
    rw [hx]; simp only [List.map_cons, List.map_nil, Rows.uptoBulk, Rows.uptoBulkAll]; omega
theorem rdk_struct4 {f0 f1 f2 f3 : Field} {R0 : α → List Value → Prop} {R1 : β → List Value → Prop} {R2 : γ → List Value → Prop} {R3 : δ → List Value → Prop} {c0 : α → Nat} {c1 : β → Nat} {c2 : γ → Nat} {c3 : δ → Nat} (he : P.underlying e = some (.struct #[f0, f1, f2, f3]))
    (h0 : RdK enc P w base spare held f0.type R0 c0) (h1 : RdK enc P w base spare held f1.type R1 c1) (h2 : RdK enc P w base spare held f2.type R2 c2) (h3 : RdK enc P w base spare held f3.type R3 c3) :
    RdK enc P w base spare held e (fun (x : α × β × γ × δ) cs => cs.length = P.cellsOf e ∧ R0 x.1 (Rdr.part cs f0.offset (P.cellsOf f0.type)) ∧ R1 x.2.1 (Rdr.part cs f1.offset (P.cellsOf f1.type)) ∧ R2 x.2.2.1 (Rdr.part cs f2.offset (P.cellsOf f2.type)) ∧ R3 x.2.2.2 (Rdr.part cs f3.offset (P.cellsOf f3.type)))
      (fun x => c0 x.1 + c1 x.2.1 + c2 x.2.2.1 + c3 x.2.2.2 + 1) := by
  intro fuel cs x h
  obtain ⟨xs, n, _, hx, hl, hxl, hf⟩ := DataW.trod_struct he h
  have g0 := hf 0 f0 rfl
  have g1 := hf 1 f1 rfl
  have g2 := hf 2 f2 rfl
  have g3 := hf 3 f3 rfl
  simp only [List.size_toArray, List.length_cons, List.length_nil] at hxl
  match xs, hxl with
  | [y0, y1, y2, y3], _ =>
    obtain ⟨a, ha, ka⟩ := h0 _ _ _ g0
    obtain ⟨b, hb, kb⟩ := h1 _ _ _ g1
    obtain ⟨c, hc, kc⟩ := h2 _ _ _ g2
    obtain ⟨d, hd, kd⟩ := h3 _ _ _ g3
    refine ⟨(a, b, c, d), ⟨hl, ha, hb, hc, hd⟩, ?_⟩
    rw [hx]; simp only [List.map_cons, List.map_nil, Rows.uptoBulk, Rows.uptoBulkAll]; omega
def costs (c : α → Nat) (L : List α) : Nat := (L.map c).sum
theorem costs_of {c : α → Nat} (D : Nat → DataW H) : ∀ (n : Nat) (L : List α), L.length = n → (∀ i (hi : i < L.length), c L[i] ≤ Rows.uptoBulk (D i)) → costs c L ≤ Rows.uptoBulkAll ((List.range n).map D) := by
  intro n
  induction n with
  | zero => intro L hl _; obtain rfl := List.eq_nil_of_length_eq_zero hl; simp [costs]
  | succ n ih =>
    intro L hl h
    have hd : L = L.take n ++ [L[n]'(by omega)] := by
      rw [← List.take_succ_eq_append_getElem (by omega), ← hl, List.take_length]
    have h1 := ih (L.take n) (by simp; omega) (fun i hi => by
      have := h i (by simp at hi; omega)
      rw [List.getElem_take]; exact this)
    have h2 := h n (by omega)
    rw [List.range_succ, List.map_append, bulk_append]
    rw [hd]
    unfold costs at h1 ⊢
    simp only [List.map_append, List.sum_append, List.map_cons, List.map_nil, List.sum_cons, List.sum_nil, Rows.uptoBulkAll] at h1 ⊢
    omega
theorem rdk_slice {s : Nat} {R : α → List Value → Prop} {c : α → Nat} (ht : P.underlying t = some (.slice e)) (hc : P.cellsOf e = s) (hs : 0 < s) (hr : RdK enc P w base spare held e R c) :
    RdK enc P w base spare held t (fun (L : List α) cs => ∃ v, cs = [v] ∧ SlIs w base s R v L) (fun L => costs c L + 1) := by
  intro fuel cs x h
  rcases open_slice ht h with ⟨rfl, rfl⟩ | ⟨a, len, cap, m, n, D, Pl, rfl, hb, hl, hm, hmm, rfl, hi⟩
  · exact ⟨[], ⟨_, rfl, none, 0, rfl, Nat.le_refl _, Nat.zero_le _, fun i h => by simp at h⟩, by simp [costs, Rows.uptoBulk]⟩
  · have hlm : len ≤ m := by rw [hmm]; split <;> omega
    have each : ∀ i, i < len → ∃ y : α, (∃ b o cs, a = ⟨b, o, none⟩ ∧ base ≤ b ∧ b < w.heap.size ∧ cs.length = s ∧ R y cs ∧ ∀ j, j < s → w.cell? ⟨b, o + i * s + j, none⟩ = cs[j]?) ∧ c y ≤ Rows.uptoBulk (D i) := by
      intro i hil
      obtain ⟨cs', hcs, htr⟩ := hi i (by omega)
      obtain ⟨y, hy, ky⟩ := hr _ _ _ htr
      rw [hc] at hcs
      obtain ⟨hbb, hcl, hat⟩ := World.cells?_some hcs
      have h0 : w.cell? ((a.add (i * s)).add 0) = some (cs'[0]'(by omega)) := by
        rw [hat 0 hs]; simp
      have hlt := World.block_lt_of_cell? w _ h0
      have h00 := hi 0 (by omega)
      obtain ⟨cs0, hcs0, _⟩ := h00
      rw [hc] at hcs0
      obtain ⟨_, hcl0, hat0⟩ := World.cells?_some hcs0
      have h1 : w.cell? ((a.add (0 * s)).add 0) = some (cs0[0]'(by omega)) := by rw [hat0 0 hs]; simp
      rw [Nat.zero_mul, Addr.add_zero', Addr.add_zero'] at h1
      have hspa : a.spot = none := by
        unfold World.cell? at h1
        cases hsp : a.spot with
        | none => rfl
        | some q => split at h1 <;> simp [hsp] at h1
      obtain ⟨b, o, sp⟩ := a
      simp only at hspa
      subst hspa
      refine ⟨y, ⟨b, o, cs', rfl, hb, ?_, hcl, hy, fun j hj => ?_⟩, ky⟩
      · rw [Addr.add_lit, Addr.add_lit] at hlt; exact hlt
      · have := hat j hj
        rwa [Addr.add_lit, Addr.add_lit] at this
    obtain ⟨L, hL, hp⟩ := list_of each
    refine ⟨L, ⟨_, rfl, some a, cap, by rw [hL], by omega, hm, fun i h => ?_⟩, ?_⟩
    · obtain ⟨⟨b, o, cs, rfl, h1, h2, h3, h4, h5⟩, _⟩ := hp i h
      exact ⟨b, o, cs, rfl, h1, h2, h3, h4, h5⟩
    · have hk := costs_of (c := c) D len L hL (fun i hi => (hp i hi).2)
      simp only [Rows.uptoBulk]; omega
/-- A parameter that is a slice. -/
theorem open_arg_slice_k {s : Nat} {R : α → List Value → Prop} {c : α → Nat} (ht : P.underlying t = some (.slice e)) (hc : P.cellsOf e = s) (hs : 0 < s) (hr : RdK enc P w base spare held e R c) {r : Reach} {b0 : Nat} {v : Value} {d : DataW H} {ps : List MemPlace}
    (hv : Value.okWide P w r b0 t v) (hd : DataW.Trod enc P w base spare held t v d ps) : ∃ L : List α, SlIs w base s R v L ∧ costs c L + 1 ≤ Rows.uptoBulk d := by
  obtain ⟨fuel, hf⟩ := hd
  obtain ⟨L, ⟨u, hu, hL⟩, hk⟩ := rdk_slice ht hc hs hr _ _ _ hf
  have hvu : v = u := by
    simp only [Value.okWide, ht, Cell.okWide] at hv
    cases v <;> simp_all [Value.cells, Cell.ok]
  subst hvu
  exact ⟨L, hL, hk⟩
end
end Go.Proofs.Ytineekhpbglnhaa
