/- A region that draws its order, some operations of which (the first m: they read and reckon) hang together with the others but loosely: those first, then the others in their order. -/
import Derived.Test.YtiklpifaaogcpaaPh
namespace Go.Ph
open Go

/-- The chain: one after the other; all the while T holds. -/
def wpT (P : Program) (ops : Array Oper) (T : World → Prop) (L : Act → World → Prop) : List Nat → Act → World → Prop
  | [], a, w => T w ∧ L a w
  | i :: rest, a, w => T w ∧ ∃ o, ops[i]? = some o ∧ o.guard = none ∧ gives P o a w fun v w' => wpT P ops T L rest (a.put o.dst v) w'
theorem wpT.holds {P : Program} {ops : Array Oper} {T : World → Prop} {L : Act → World → Prop} {l : List Nat} {a : Act} {w : World} (h : wpT P ops T L l a w) : T w := by
  cases l with
  | nil => exact h.1
  | cons i l => exact h.1
def frB (b : Array Nat) (ops : Array Oper) (m n : Nat) : Bool :=
  Region.noSelect ops && decide (n ≤ ops.size) && edgesB ops && sepB b ops n && tempsB b ops && decide (m ≤ n) &&
  (List.range n).all (fun i => decide (i < m) || (List.range i).all fun j => decide (j < m) || (b.getD i 0).testBit j) &&
  (List.range n).all (fun i => (List.range n).all fun j => match ops[i]?, ops[j]? with
     | some oi, some oj => (match oj.dst with
        | some t => if j < m then (decide (i = j) || oi.dst != some t) && (!(oi.looksAt ops).contains t || decide (j < i)) else (decide (m ≤ i) || !(oi.looksAt ops).contains t)
        | none => true)
     | _, _ => true) &&
  (List.range m).all (fun i => match ops[i]? with | some o => o.guard.isNone | none => true)
section
variable {P : Program} {ops : Array Oper} {Q : Exit → Act → World → Prop}
theorem frB_chain {m n : Nat} (h : frB (Region.before ops) ops m n = true) {i j : Nat} (h1 : m ≤ j) (h2 : j < i) (h3 : i < n) : anc ops i j = true := by
  unfold frB at h
  simp only [Bool.and_eq_true, decide_eq_true_eq] at h
  have h4 := List.all_eq_true.1 h.1.1.2 i (List.mem_range.2 h3)
  rcases or_t h4 with h5 | h5
  · have := of_decide_eq_true h5; omega
  · rcases or_t (List.all_eq_true.1 h5 j (List.mem_range.2 h2)) with h6 | h6
    · have := of_decide_eq_true h6; omega
    · exact h6
theorem frB_slot {m n : Nat} (h : frB (Region.before ops) ops m n = true) {i j : Nat} {oi oj : Oper} (hi : ops[i]? = some oi) (hj : ops[j]? = some oj) (h1 : i < n) (h2 : j < n) {t : Tmp} (ht : oj.dst = some t) :
    (j < m → (i ≠ j → oi.dst ≠ some t) ∧ (t ∈ oi.looksAt ops → j < i)) ∧ (m ≤ j → i < m → t ∉ oi.looksAt ops) := by
  unfold frB at h
  simp only [Bool.and_eq_true, decide_eq_true_eq] at h
  have h4 := List.all_eq_true.1 (List.all_eq_true.1 h.1.2 i (List.mem_range.2 h1)) j (List.mem_range.2 h2)
  simp only [hi, hj, ht] at h4
  by_cases hjm : j < m
  · rw [if_pos hjm, Bool.and_eq_true] at h4
    refine ⟨fun _ => ⟨fun hne hd => ?_, fun hl => ?_⟩, fun h => absurd h (by omega)⟩
    · rcases or_t h4.1 with h5 | h5
      · exact hne (of_decide_eq_true h5)
      · rw [hd] at h5; simp at h5
    · rcases or_t h4.2 with h5 | h5
      · have := List.contains_iff_mem.2 hl
        rw [this] at h5; cases h5
      · exact of_decide_eq_true h5
  · rw [if_neg hjm] at h4
    refine ⟨fun h => absurd h hjm, fun _ him hl => ?_⟩
    rcases or_t h4 with h5 | h5
    · have := of_decide_eq_true h5; omega
    · have := List.contains_iff_mem.2 hl
      rw [this] at h5; cases h5
theorem frB_guard {m n : Nat} (h : frB (Region.before ops) ops m n = true) {i : Nat} {o : Oper} (hi : ops[i]? = some o) (h1 : i < m) : o.guard = none := by
  unfold frB at h
  simp only [Bool.and_eq_true, decide_eq_true_eq] at h
  have h4 := List.all_eq_true.1 h.2 i (List.mem_range.2 h1)
  simp only [hi] at h4
  simpa using h4
theorem wanted_none {o : Oper} (h : o.guard = none) (y : Nat → Option Bool) : Region.wanted o y = true := by
  unfold Region.wanted
  rw [h]
/-- What a free one's slot holds. -/
theorem fill_own {m n : Nat} (hB : frB (Region.before ops) ops m n = true) (v : Nat → Value) (a0 a : Act) {i : Nat} (hi : i < m) (hmn : m ≤ n) {t : Tmp} (ht : dstOf ops i = some t) (hs : a.tmps.size = a0.tmps.size) :
    (fill ops v (fun _ => true) a0 m).tmps[t]? = (a.put (some t) (v i)).tmps[t]? := by
  have h1 := fill_put (ops := ops) v (fun j => decide (j ≠ i ∧ j < m)) a0 i (by simp) (fun j hij hl d hd hdj => by
    have hj := of_decide_eq_true hl
    obtain ⟨oi, hoi, hdi⟩ := dst_spec hd
    obtain ⟨oj, hoj, hdj'⟩ := dst_spec hdj
    exact ((frB_slot hB hoj hoi (by omega) (by omega) hdi).1 hi).1 hj.1 hdj') m hi
  rw [fill_congr v (fun j => if j = i then true else decide (j ≠ i ∧ j < m)) (fun _ => true) a0 m (fun j hj => by
    by_cases h : j = i
    · simp [h]
    · simp [h, hj])] at h1
  rw [← h1, ht]
  exact put_get_same _ _ _ _ _ (by rw [fill_size, hs]) rfl
theorem wpAny_free {m n : Nat} (hB : frB (Region.before ops) ops m n = true) (v : Nat → Value) (a0 : Act) (T : World → Prop)
    (hF : ∀ i o, i < m → ops[i]? = some o → ∀ w, T w → (execOp (fill ops v (fun _ => true) a0 i).eval o).run P w = .ok (.value (v i)) w) :
    ∀ (c : Nat) (listed : Array Bool) (cl : List Nat) (a aF : Act) (w : World), listed.size = ops.size → Closed ops listed → (∀ t, n ≤ t → listed.getD t false = false) →
      (∀ i, i ∈ cl ↔ (m ≤ i ∧ i < n ∧ listed.getD i false = false)) → cl.Pairwise (· < ·) → (List.range n).countP (fun j => !listed.getD j false) = c →
      a.tmps.size = a0.tmps.size → aF.tmps.size = a0.tmps.size → a.defers = aF.defers →
      (∀ t, (∀ j, j < m → listed.getD j false = false → dstOf ops j ≠ some t) → a.tmps[t]? = aF.tmps[t]?) →
      (∀ t, (∀ j, m ≤ j → j < n → dstOf ops j ≠ some t) → aF.tmps[t]? = (fill ops v (fun _ => true) a0 m).tmps[t]?) →
      wpT P ops T (At P ops Q n) cl aF w → wpAny P .any ops Q (c + (ops.size - n)) listed a w := by
  have hB' := hB
  unfold frB at hB'
  simp only [Bool.and_eq_true, decide_eq_true_eq] at hB'
  obtain ⟨⟨⟨⟨⟨⟨⟨⟨hsel, hn⟩, hE⟩, hS⟩, hM⟩, hmn⟩, _⟩, _⟩, _⟩ := hB'
  intro c
  induction c with
  | zero =>
    intro listed cl a aF w hs hc htl hcl hpw hcount hsa hsf hd h2 h3 hT
    have hall : ∀ j, j < n → listed.getD j false = true := fun j hj => by
      have := (List.countP_eq_zero.1 hcount) j (List.mem_range.2 hj)
      simpa using this
    have hnil : cl = [] := List.eq_nil_iff_forall_not_mem.2 fun i hi => by
      obtain ⟨g1, g2, g3⟩ := (hcl i).1 hi
      rw [hall i g2] at g3; cases g3
    subst hnil
    have ha : a = aF := by
      obtain ⟨at_, ad⟩ := a
      obtain ⟨bt, bd⟩ := aF
      dsimp only at hd h2
      subst hd
      congr 1
      refine Array.ext_getElem? fun t => h2 t fun j hj hl => ?_
      rw [hall j (by omega)] at hl; cases hl
    subst ha
    rw [Nat.zero_add]
    exact hT.2 listed hs hc (fun j hj => by
      rcases Nat.lt_or_ge j n with h' | h'
      · rw [hall j h']; simp [h']
      · rw [htl j h']; simp; omega)
  | succ c ih =>
    intro listed cl a aF w hs hc htl hcl hpw hcount hsa hsf hd h2 h3 hT
    have hex : ∃ i, i < n ∧ listed.getD i false = false := by
      have : 0 < (List.range n).countP (fun j => !listed.getD j false) := by omega
      obtain ⟨i, hi, hp⟩ := List.countP_pos_iff.1 this
      exact ⟨i, List.mem_range.1 hi, by simpa using hp⟩
    have hne : Region.ready .any ops listed ≠ [] := by
      obtain ⟨i, hi, hif⟩ := hex
      obtain ⟨k, hk, _⟩ := least_ready hE hn hs i i rfl hi hif
      intro h; rw [h] at hk; cases hk
    rw [show c + 1 + (ops.size - n) = (c + (ops.size - n)) + 1 by omega]
    refine ⟨fun h => absurd h hne, fun i hi => ?_⟩
    obtain ⟨hun, oi, hoi, hall⟩ := mem_ready.1 hi
    have li := (Array.getElem?_eq_some_iff.1 hoi).1
    have hif : listed.getD i false = false := by rw [← getD_ft (by omega)]; exact hun
    have hin : i < n := by
      rcases Nat.lt_or_ge i n with h | h
      · exact h
      · have h5 := List.all_eq_true.1 hS i (List.mem_range.2 li)
        rcases or_t h5 with h6 | h6
        · have := of_decide_eq_true h6; omega
        · obtain ⟨j, hj, hjf⟩ := hex
          have h7 := anc_ready hc hi j (List.all_eq_true.1 h6 j (List.mem_range.2 hj))
          rw [hjf] at h7; cases h7
    -- nobody looks at the slot of a free one that is still to come
    have hlook : ∀ t ∈ oi.looksAt ops, ∀ j, j < m → listed.getD j false = false → dstOf ops j ≠ some t := by
      intro t ht j hj hjf hdj
      obtain ⟨oj, hoj, hdj'⟩ := dst_spec hdj
      have h5 := ((frB_slot hB hoi hoj hin (by omega) hdj').1 hj).2 ht
      have h6 := tempsB_spec hM hoi hoj (by omega) hdj' (.inl ht)
      rw [show max i j = i by omega, show min i j = j by omega] at h6
      rw [anc_ready hc hi j h6] at hjf; cases hjf
    have hcount' : (List.range n).countP (fun j => !(listed.setIfInBounds i true).getD j false) = c := by
      have h5 := countP_set (fun _ => true) (fun j => listed.getD j false) i hif n hin
      have h6 : ∀ p : Nat → Bool, (List.range n).countP (fun j => !p j) + (List.range n).countP p = n := fun p => by
        have := List.length_eq_countP_add_countP (p := p) (l := List.range n)
        simp only [List.length_range] at this
        have h7 : (List.range n).countP (fun j => !p j) = (List.range n).countP (fun a => decide ¬p a = true) := List.countP_congr fun x _ => by simp
        omega
      have h7 := h6 (fun j => listed.getD j false)
      have h8 := h6 (fun j => (listed.setIfInBounds i true).getD j false)
      have h9 : (List.range n).countP (fun j => (listed.setIfInBounds i true).getD j false) = (List.range n).countP (fun j => true && (if j = i then true else listed.getD j false)) :=
        List.countP_congr fun x _ => by rw [getD_set_i (by omega)]; simp
      simp only [Bool.true_and, if_true] at h5 h9
      omega
    have hset : ∀ j, (listed.setIfInBounds i true).getD j false = false → listed.getD j false = false ∧ j ≠ i := fun j hj => by
      rw [getD_set_i (by omega)] at hj
      split at hj
      · cases hj
      · exact ⟨hj, by assumption⟩
    have hset' : ∀ j, listed.getD j false = false → j ≠ i → (listed.setIfInBounds i true).getD j false = false := fun j hj hji => by
      rw [getD_set_i (by omega), if_neg hji]; exact hj
    have hdi : dstOf ops i = oi.dst := by simp [dstOf, hoi]
    unfold wpOp
    simp only [hoi]
    by_cases him : i < m
    · -- a free one
      have hg := frB_guard hB hoi him
      rw [if_pos (wanted_none hg _)]
      left
      have e1 : execOp a.eval oi = execOp (fill ops v (fun _ => true) a0 i).eval oi := execOp_of_get (ops := ops) oi (fun cs b => Region.noSelect_spec hsel i oi cs b hoi) fun t ht => by
        rw [h2 t (hlook t ht), h3 t (fun j h5 h6 hdj => by
          obtain ⟨oj, hoj, hdj'⟩ := dst_spec hdj
          exact (frB_slot hB hoi hoj hin h6 hdj').2 h5 him ht)]
        have h5 := fill_get (ops := ops) v (fun _ => true) (fun j => decide (j < i)) a0 t m (fun j hj hdj => by
          obtain ⟨oj, hoj, hdj'⟩ := dst_spec hdj
          have := ((frB_slot hB hoi hoj hin (by omega) hdj').1 hj).2 ht
          simp [this])
        rw [h5, show m = i + (m - i) by omega, fill_lt v a0 i (m - i)]
      refine gives_wp (R := fun u w' => u = v i ∧ w' = w) (by
        unfold gives
        rw [e1, hF i oi him hoi w hT.holds]
        exact ⟨rfl, rfl⟩) ?_
      rintro u w' ⟨rfl, rfl⟩
      refine ih _ cl _ aF _ (by simpa using hs) (closed_set hs hc hi) (fun t ht => hset' t (htl t ht) (by omega)) (fun j => ?_) hpw hcount' (by rw [put_size]; exact hsa) hsf (by rw [put_defers]; exact hd) (fun t ht => ?_) h3 hT
      · rw [hcl]
        exact ⟨fun ⟨g1, g2, g3⟩ => ⟨g1, g2, hset' j g3 (by omega)⟩, fun ⟨g1, g2, g3⟩ => ⟨g1, g2, (hset j g3).1⟩⟩
      · by_cases hdt : oi.dst = some t
        · rw [h3 t (fun j h5 h6 hdj => by
            obtain ⟨oj, hoj, hdj'⟩ := dst_spec hdj
            exact ((frB_slot hB hoj hoi h6 hin hdt).1 him).1 (by omega) hdj'), hdt]
          exact (fill_own hB v a0 a him hmn (by rw [hdi]; exact hdt) hsa).symm
        · rw [put_get _ _ _ _ hdt]
          exact h2 t fun j hj hjf => by
            by_cases hji : j = i
            · subst hji; rw [hdi]; exact hdt
            · exact ht j hj (hset' j hjf hji)
    · -- one of the chain: its head
      have hicl : i ∈ cl := (hcl i).2 ⟨by omega, hin, hif⟩
      cases cl with
      | nil => cases hicl
      | cons h rest =>
        have hh : i = h := by
          rcases List.mem_cons.1 hicl with h5 | h5
          · exact h5
          · have h6 := (List.pairwise_cons.1 hpw).1 i h5
            obtain ⟨g1, g2, g3⟩ := (hcl h).1 (by simp)
            have := anc_ready hc hi h (frB_chain hB g1 h6 hin)
            rw [g3] at this; cases this
        subst hh
        obtain ⟨_, o, ho, hg, hgv⟩ := hT
        obtain rfl : oi = o := Option.some.inj (hoi.symm.trans ho)
        rw [if_pos (wanted_none hg _)]
        left
        have e1 : execOp a.eval oi = execOp aF.eval oi := execOp_of_get (ops := ops) oi (fun cs b => Region.noSelect_spec hsel i oi cs b hoi) fun t ht => h2 t (hlook t ht)
        refine gives_wp (R := fun u w' => wpT P ops T (At P ops Q n) rest (aF.put oi.dst u) w') (by
          unfold gives at hgv ⊢
          rw [e1]; exact hgv) ?_
        intro u w' hT'
        refine ih _ rest _ (aF.put oi.dst u) _ (by simpa using hs) (closed_set hs hc hi) (fun t ht => hset' t (htl t ht) (by omega)) (fun j => ?_) (List.pairwise_cons.1 hpw).2 hcount' (by rw [put_size]; exact hsa) (by rw [put_size]; exact hsf) (by rw [put_defers, put_defers]; exact hd) (fun t ht => ?_) (fun t ht => ?_) hT'
        · constructor
          · intro hj
            obtain ⟨g1, g2, g3⟩ := (hcl j).1 (List.mem_cons_of_mem _ hj)
            have := (List.pairwise_cons.1 hpw).1 j hj
            exact ⟨g1, g2, hset' j g3 (by omega)⟩
          · rintro ⟨g1, g2, g3⟩
            obtain ⟨g4, g5⟩ := hset j g3
            rcases List.mem_cons.1 ((hcl j).2 ⟨g1, g2, g4⟩) with h5 | h5
            · exact absurd h5 g5
            · exact h5
        · by_cases hdt : oi.dst = some t
          · exact put_get_same _ _ _ _ _ (by rw [hsa, hsf]) hdt
          · rw [put_get _ _ _ _ hdt, put_get _ _ _ _ hdt]
            exact h2 t fun j hj hjf => ht j hj (hset' j hjf (by omega))
        · rw [put_get _ _ _ _ (by rw [← hdi]; exact ht i (by omega) hin)]
          exact h3 t ht
/-- The values of the free ones, one after the other. -/
def wpF (P : Program) (T : World → Prop) (L : Act → Prop) : List Oper → Act → Prop
  | [], a => L a
  | o :: rest, a => ∃ v, (∀ w, T w → (execOp a.eval o).run P w = .ok (.value v) w) ∧ wpF P T L rest (a.put o.dst v)
theorem vals_of_wpF {T : World → Prop} {Lq : Act → Prop} (a0 : Act) : ∀ (l : List Oper) (i : Nat) (a : Act) (vals0 : Nat → Value),
    (∀ j, j < l.length → l[j]? = ops[i + j]?) → a = fill ops vals0 (fun _ => true) a0 i → wpF P T Lq l a →
    ∃ vals : Nat → Value, (∀ j, j < i → vals j = vals0 j) ∧ (∀ j o, i ≤ j → j < i + l.length → ops[j]? = some o → ∀ w, T w → (execOp (fill ops vals (fun _ => true) a0 j).eval o).run P w = .ok (.value (vals j)) w) ∧
      Lq (fill ops vals (fun _ => true) a0 (i + l.length))
  | [], i, a, vals0, _, ha, h => ⟨vals0, fun _ _ => rfl, fun j o h1 h2 => (by simp at h2; omega), by subst ha; exact h⟩
  | o :: l, i, a, vals0, hl, ha, h => by
    obtain ⟨v, hok, h'⟩ := h
    have h0 : ops[i]? = some o := by simpa using (hl 0 (by simp)).symm
    have hv1 : ∀ j, j < i → (fun j => if j = i then v else vals0 j) j = vals0 j := fun j hj => if_neg (by omega)
    obtain ⟨vals, e1, e2, e3⟩ := vals_of_wpF a0 l (i + 1) (a.put o.dst v) (fun j => if j = i then v else vals0 j)
      (fun j hj => by have := hl (j + 1) (by simp; omega); simpa [Nat.add_assoc, Nat.add_comm 1 j] using this)
      (by
        subst ha
        rw [fill_succ]
        simp only [if_true]
        rw [fill_vals (fun j => if j = i then v else vals0 j) vals0 _ a0 i hv1]
        simp [dstOf, h0]) h'
    have ei : vals i = v := by rw [e1 i (by omega)]; simp
    have ef : fill ops vals (fun _ => true) a0 i = fill ops vals0 (fun _ => true) a0 i := fill_vals _ _ _ a0 i (fun j hj => by rw [e1 j (by omega), if_neg (by omega)])
    refine ⟨vals, fun j hj => by rw [e1 j (by omega), if_neg (by omega)], fun j o' h1 h2 ho => ?_, by simpa [Nat.add_assoc, Nat.add_comm 1] using e3⟩
    by_cases hj : j = i
    · subst hj
      obtain rfl : o' = o := Option.some.inj (ho.symm.trans h0)
      rw [ef, ei, ← ha]; exact hok
    · exact e2 j o' (by omega) (by simp only [List.length_cons] at h2; omega) ho
theorem at_free {a : Act} {w : World} (m n : Nat) (T : World → Prop) (hB : frB (Region.before ops) ops m n = true)
    (h : wpF P T (fun a' => wpT P ops T (At P ops Q n) (List.range' m (n - m)) a' w) (ops.toList.take m) a) : At P ops Q 0 a w := by
  intro listed hs hc hl
  have hB' := hB
  unfold frB at hB'
  simp only [Bool.and_eq_true, decide_eq_true_eq] at hB'
  have hn : n ≤ ops.size := hB'.1.1.1.1.1.1.1.2
  have hmn : m ≤ n := hB'.1.1.1.2
  have hlen : (ops.toList.take m).length = m := by simp; omega
  obtain ⟨vals, _, e2, e3⟩ := vals_of_wpF (ops := ops) a (ops.toList.take m) 0 a (fun _ => undef) (fun j hj => by
    rw [hlen] at hj
    rw [List.getElem?_take, if_pos (by omega)]; simp) rfl h
  rw [hlen, Nat.zero_add] at e3
  have hz : ∀ j, listed.getD j false = false := fun j => by
    rcases Nat.lt_or_ge j ops.size with h' | h'
    · rw [hl j h']; simp
    · simp [Array.getElem?_eq_none (show listed.size ≤ j by omega)]
  have key := wpAny_free (P := P) (Q := Q) (ops := ops) hB vals a T (fun i o hi ho => e2 i o (Nat.zero_le _) (by rw [hlen]; omega) ho) n listed (List.range' m (n - m)) a (fill ops vals (fun _ => true) a m) w hs hc (fun t _ => hz t)
    (fun i => by
      rw [List.mem_range'_1]
      exact ⟨fun ⟨g1, g2⟩ => ⟨g1, by omega, hz i⟩, fun ⟨g1, g2, _⟩ => ⟨g1, by omega⟩⟩)
    (List.pairwise_lt_range' ..)
    (by
      have : (List.range n).countP (fun j => !listed.getD j false) = (List.range n).length := List.countP_eq_length.2 fun j _ => by rw [hz]; rfl
      rw [this]; simp)
    rfl (fill_size _ _ _ _) (fill_defers _ _ _ _).symm
    (fun t ht => by
      have h5 := fill_get (ops := ops) vals (fun _ => false) (fun _ => true) a t m (fun j hj hd => absurd hd (ht j hj (hz j)))
      rw [← h5]
      have h6 : ∀ k, fill ops vals (fun _ => false) a k = a := fun k => by
        induction k with
        | zero => rfl
        | succ k ih => unfold fill; simp [ih]
      rw [h6])
    (fun t _ => rfl) e3
  rw [show n + (ops.size - n) = ops.size - 0 by omega] at key
  exact key
/-! The steps. -/
theorem wpF_nil {T : World → Prop} {L : Act → Prop} {a : Act} (h : L a) : wpF P T L [] a := h
theorem wpF_op {T : World → Prop} {L : Act → Prop} {o : Oper} {rest : List Oper} {a : Act} {v : Value} (h : ∀ w, T w → (execOp a.eval o).run P w = .ok (.value v) w) (hr : wpF P T L rest (a.put o.dst v)) : wpF P T L (o :: rest) a := ⟨v, h, hr⟩
theorem wpT_nil {T : World → Prop} {L : Act → World → Prop} {a : Act} {w : World} (hT : T w) (h : L a w) : wpT P ops T L [] a w := ⟨hT, h⟩
theorem wpT_op {T : World → Prop} {L : Act → World → Prop} {i : Nat} {rest : List Nat} {a : Act} {w : World} {o : Oper} (ho : ops[i]? = some o) (hg : o.guard = none) (hT : T w) {v : Value} {S : World → Prop} (h : givesV P o a w v S) (hr : ∀ w', S w' → wpT P ops T L rest (a.put o.dst v) w') :
    wpT P ops T L (i :: rest) a w := ⟨hT, o, ho, hg, gives_mono (givesV_gives h) fun u w' ⟨h1, h2⟩ => by subst h1; exact hr w' h2⟩
theorem wpT_gives {T : World → Prop} {L : Act → World → Prop} {i : Nat} {rest : List Nat} {a : Act} {w : World} {o : Oper} (ho : ops[i]? = some o) (hg : o.guard = none) (hT : T w) (h : gives P o a w fun v w' => wpT P ops T L rest (a.put o.dst v) w') :
    wpT P ops T L (i :: rest) a w := ⟨hT, o, ho, hg, h⟩
end
end Go.Ph
