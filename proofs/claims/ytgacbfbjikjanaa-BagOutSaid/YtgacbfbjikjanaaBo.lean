/- Which are out: plain law; no program in sight. -/
namespace Go.Bo
/-- out tells of each place below n whether it is out: idx are those that aren't, in order. -/
structure OutOk (n : Nat) (idx : List Nat) (out : List Bool) : Prop where
  sorted : idx.Pairwise (· < ·)
  lt : ∀ i ∈ idx, i < n
  len : out.length = n
  tells : ∀ i, i < n → out[i]? = some (decide (i ∉ idx))
theorem OutOk.start (n : Nat) : OutOk n (List.range n) (List.replicate n false) :=
  ⟨List.pairwise_lt_range, fun i h => List.mem_range.1 h, by simp, fun i h => by simp [h]⟩
theorem OutOk.no {n : Nat} {idx : List Nat} {out : List Bool} (h : OutOk n idx out) {i : Nat} (hi : i ∈ idx) : out[i]? = some false := by
  rw [h.tells i (h.lt i hi)]; simp [hi]
theorem OutOk.sub {n : Nat} {idx idx' : List Nat} {out : List Bool} (h : OutOk n idx out) {x : Nat} (hx : x ∈ idx) (hs : idx'.Pairwise (· < ·)) (hm : ∀ i, i ∈ idx' ↔ i ∈ idx ∧ i ≠ x) : OutOk n idx' (out.set x true) := by
  refine ⟨hs, fun i hi => h.lt i ((hm i).1 hi).1, by simp [h.len], fun i hi => ?_⟩
  rw [List.getElem?_set]
  by_cases e : x = i
  · subst e
    have : x ∉ idx' := fun hh => ((hm x).1 hh).2 rfl
    simp [h.len, hi, this]
  · rw [if_neg e, h.tells i hi]
    congr 1
    have : i ∈ idx' ↔ i ∈ idx := by rw [hm i]; exact ⟨fun a => a.1, fun a => ⟨a, fun e2 => e e2.symm⟩⟩
    simp [this]
theorem mem_erase {idx : List Nat} (hs : idx.Pairwise (· < ·)) (j : Nat) (hj : j < idx.length) (i : Nat) : i ∈ idx.eraseIdx j ↔ i ∈ idx ∧ i ≠ idx[j] := by
  induction idx generalizing j with
  | nil => simp at hj
  | cons y t ih =>
    rw [List.pairwise_cons] at hs
    cases j with
    | zero =>
      simp only [List.eraseIdx_cons_zero, List.getElem_cons_zero, List.mem_cons]
      constructor
      · intro h; exact ⟨.inr h, fun e => by have := hs.1 i h; omega⟩
      · rintro ⟨h | h, hne⟩
        · exact absurd h hne
        · exact h
    | succ j =>
      simp only [List.length_cons] at hj
      simp only [List.eraseIdx_cons_succ, List.getElem_cons_succ, List.mem_cons]
      rw [ih hs.2 j (by omega)]
      constructor
      · rintro (h | ⟨h, hne⟩)
        · subst h; exact ⟨.inl rfl, fun e => by have := hs.1 t[j] (List.getElem_mem _); omega⟩
        · exact ⟨.inr h, hne⟩
      · rintro ⟨h | h, hne⟩
        · exact .inl h
        · exact .inr ⟨h, hne⟩
theorem OutOk.take {n : Nat} {idx : List Nat} {out : List Bool} (h : OutOk n idx out) (j : Nat) (hj : j < idx.length) : OutOk n (idx.eraseIdx j) (out.set idx[j] true) :=
  h.sub (List.getElem_mem _) (h.sorted.sublist (List.eraseIdx_sublist _ _)) (mem_erase h.sorted j hj)
theorem OutOk.next {n : Nat} {x : Nat} {t : List Nat} {out : List Bool} (h : OutOk n (x :: t) out) : OutOk n t (out.set x true) ∧ ∀ y ∈ t, x < y := by
  have hs := List.pairwise_cons.1 h.sorted
  refine ⟨h.sub (List.mem_cons_self) hs.2 (fun i => ?_), hs.1⟩
  constructor
  · intro hi; exact ⟨List.mem_cons_of_mem _ hi, fun e => by have := hs.1 i hi; omega⟩
  · rintro ⟨hi, hne⟩
    rcases List.mem_cons.1 hi with e | e
    · exact absurd e hne
    · exact e
theorem OutOk.all {n : Nat} {out : List Bool} (h : OutOk n [] out) (i : Nat) (hi : i < n) : out[i]? = some true := by
  rw [h.tells i hi]; simp
end Go.Bo
