/- A region that draws its order: operations that only read and reckon (F) hang together with the others but loosely: those first, then the others in whatever order they may come. -/
import Derived.Test.YtiklpifaaogcpaaFr
namespace Go.Ph
open Go

/-- The others, in whatever order they may come; all the while T holds. -/
def wpX (P : Program) (ops : Array Oper) (T : World → Prop) (L : Act → World → Prop) : Nat → List Nat → Act → World → Prop
  | 0, _, a, w => T w ∧ L a w
  | k + 1, rem, a, w => T w ∧ ∀ i ∈ rem, (∀ j ∈ rem, anc ops i j = false) → ∃ o, ops[i]? = some o ∧ o.guard = none ∧ gives P o a w fun v w' => wpX P ops T L k (rem.erase i) (a.put o.dst v) w'
theorem wpX.holds {P : Program} {ops : Array Oper} {T : World → Prop} {L : Act → World → Prop} {k : Nat} {l : List Nat} {a : Act} {w : World} (h : wpX P ops T L k l a w) : T w := by
  cases k with
  | zero => exact h.1
  | succ k => exact h.1
def fxB (b : Array Nat) (ops : Array Oper) (n : Nat) (isF : Nat → Bool) : Bool :=
  Region.noSelect ops && decide (n ≤ ops.size) && edgesB ops && sepB b ops n && tempsB b ops &&
  (List.range n).all (fun i => (List.range n).all fun j => match ops[i]?, ops[j]? with
     | some oi, some oj => (match oj.dst with
        | some t => if isF j then (decide (i = j) || oi.dst != some t) && (!(oi.looksAt ops).contains t || decide (j < i)) else (!isF i || !(oi.looksAt ops).contains t)
        | none => true)
     | _, _ => true) &&
  (List.range n).all (fun i => !isF i || match ops[i]? with | some o => o.guard.isNone | none => true)
section
variable {P : Program} {ops : Array Oper} {Q : Exit → Act → World → Prop}
theorem fxB_slot {n : Nat} {isF : Nat → Bool} (h : fxB (Region.before ops) ops n isF = true) {i j : Nat} {oi oj : Oper} (hi : ops[i]? = some oi) (hj : ops[j]? = some oj) (h1 : i < n) (h2 : j < n) {t : Tmp} (ht : oj.dst = some t) :
    (isF j = true → (i ≠ j → oi.dst ≠ some t) ∧ (t ∈ oi.looksAt ops → j < i)) ∧ (isF j = false → isF i = true → t ∉ oi.looksAt ops) := by
  unfold fxB at h
  simp only [Bool.and_eq_true, decide_eq_true_eq] at h
  have h4 := List.all_eq_true.1 (List.all_eq_true.1 h.1.2 i (List.mem_range.2 h1)) j (List.mem_range.2 h2)
  simp only [hi, hj, ht] at h4
  by_cases hjm : isF j = true
  · rw [if_pos hjm, Bool.and_eq_true] at h4
    refine ⟨fun _ => ⟨fun hne hd => ?_, fun hl => ?_⟩, fun h => by rw [hjm] at h; cases h⟩
    · rcases or_t h4.1 with h5 | h5
      · exact hne (of_decide_eq_true h5)
      · rw [hd] at h5; simp at h5
    · rcases or_t h4.2 with h5 | h5
      · have := List.contains_iff_mem.2 hl
        rw [this] at h5; cases h5
      · exact of_decide_eq_true h5
  · rw [if_neg hjm] at h4
    refine ⟨fun h => absurd h hjm, fun _ him hl => ?_⟩
    rcases or_t h4 with h5 | h5
    · rw [him] at h5; cases h5
    · have := List.contains_iff_mem.2 hl
      rw [this] at h5; cases h5
theorem fxB_guard {n : Nat} {isF : Nat → Bool} (h : fxB (Region.before ops) ops n isF = true) {i : Nat} {o : Oper} (hi : ops[i]? = some o) (hin : i < n) (h1 : isF i = true) : o.guard = none := by
  unfold fxB at h
  simp only [Bool.and_eq_true, decide_eq_true_eq] at h
  have h4 := List.all_eq_true.1 h.2 i (List.mem_range.2 hin)
  simp only [hi, h1] at h4
  simpa using h4
theorem fill_ltX (vals : Nat → Value) (isF : Nat → Bool) (a : Act) (i : Nat) : ∀ d, fill ops vals (fun j => isF j && decide (j < i)) a (i + d) = fill ops vals isF a i
  | 0 => fill_congr vals _ _ a _ (fun j hj => by have : j < i := by omega
                                                 simp [this])
  | d + 1 => by
    rw [← fill_ltX vals isF a i d, show i + (d + 1) = (i + d) + 1 by omega, fill_succ, if_neg (by simp)]
theorem fill_valsX (vals vals' : Nat → Value) (L : Nat → Bool) (a : Act) : ∀ m, (∀ j, j < m → vals j = vals' j) → fill ops vals L a m = fill ops vals' L a m
  | 0, _ => rfl
  | m + 1, h => by
    unfold fill
    rw [h m (by omega), fill_valsX vals vals' L a m (fun j hj => h j (by omega))]
/-- What a free one's slot holds. -/
theorem fill_ownX {n : Nat} {isF : Nat → Bool} (hB : fxB (Region.before ops) ops n isF = true) (v : Nat → Value) (a0 a : Act) {i : Nat} (hi : isF i = true) (hin : i < n) {t : Tmp} (ht : dstOf ops i = some t) (hs : a.tmps.size = a0.tmps.size) :
    (fill ops v isF a0 n).tmps[t]? = (a.put (some t) (v i)).tmps[t]? := by
  have h1 := fill_put (ops := ops) v (fun j => isF j && decide (j ≠ i ∧ j < n)) a0 i (by simp) (fun j hij hl d hd hdj => by
    have hj := of_decide_eq_true (Bool.and_eq_true _ _ ▸ hl).2
    obtain ⟨oi, hoi, hdi⟩ := dst_spec hd
    obtain ⟨oj, hoj, hdj'⟩ := dst_spec hdj
    exact ((fxB_slot hB hoj hoi (by omega) hin hdi).1 hi).1 hj.1 hdj') n hin
  rw [fill_congr v (fun j => if j = i then true else isF j && decide (j ≠ i ∧ j < n)) isF a0 n (fun j hj => by
    by_cases h : j = i
    · subst h; simp [hi]
    · simp [h, hj])] at h1
  rw [← h1, ht]
  exact put_get_same _ _ _ _ _ (by rw [fill_size, hs]) rfl
theorem wpAny_freeX {n : Nat} {isF : Nat → Bool} (hB : fxB (Region.before ops) ops n isF = true) (v : Nat → Value) (a0 : Act) (T : World → Prop)
    (hF : ∀ i o, i < n → isF i = true → ops[i]? = some o → ∀ w, T w → (execOp (fill ops v isF a0 i).eval o).run P w = .ok (.value (v i)) w) :
    ∀ (c : Nat) (listed : Array Bool) (cl : List Nat) (a aF : Act) (w : World), listed.size = ops.size → Closed ops listed → (∀ t, n ≤ t → listed.getD t false = false) →
      (∀ i, i ∈ cl ↔ (isF i = false ∧ i < n ∧ listed.getD i false = false)) → cl.Nodup → (List.range n).countP (fun j => !listed.getD j false) = c →
      a.tmps.size = a0.tmps.size → aF.tmps.size = a0.tmps.size → a.defers = aF.defers →
      (∀ t, (∀ j, j < n → isF j = true → listed.getD j false = false → dstOf ops j ≠ some t) → a.tmps[t]? = aF.tmps[t]?) →
      (∀ t, (∀ j, isF j = false → j < n → dstOf ops j ≠ some t) → aF.tmps[t]? = (fill ops v isF a0 n).tmps[t]?) →
      wpX P ops T (At P ops Q n) cl.length cl aF w → wpAny P .any ops Q (c + (ops.size - n)) listed a w := by
  have hB' := hB
  unfold fxB at hB'
  simp only [Bool.and_eq_true, decide_eq_true_eq] at hB'
  obtain ⟨⟨⟨⟨⟨⟨hsel, hn⟩, hE⟩, hS⟩, hM⟩, _⟩, _⟩ := hB'
  intro c
  induction c with
  | zero =>
    intro listed cl a aF w hs hc htl hcl hpw hcount hsa hsf hd h2 h3 hT
    have hall : ∀ j, j < n → listed.getD j false = true := fun j hj => by
      have := (List.countP_eq_zero.1 hcount) j (List.mem_range.2 hj)
      simpa using this
    have hnil : cl = [] := List.eq_nil_iff_forall_not_mem.2 fun i hi => by
      obtain ⟨g1, g2, g3⟩ := (hcl i).1 hi
      rw [hall i g2] at g3; cases g3
    subst hnil
    have ha : a = aF := by
      obtain ⟨at_, ad⟩ := a
      obtain ⟨bt, bd⟩ := aF
      dsimp only at hd h2
      subst hd
      congr 1
      refine Array.ext_getElem? fun t => h2 t fun j hj _ hl => ?_
      rw [hall j hj] at hl; cases hl
    subst ha
    rw [Nat.zero_add]
    exact hT.2 listed hs hc (fun j hj => by
      rcases Nat.lt_or_ge j n with h' | h'
      · rw [hall j h']; simp [h']
      · rw [htl j h']; simp; omega)
  | succ c ih =>
    intro listed cl a aF w hs hc htl hcl hpw hcount hsa hsf hd h2 h3 hT
    have hex : ∃ i, i < n ∧ listed.getD i false = false := by
      have : 0 < (List.range n).countP (fun j => !listed.getD j false) := by omega
      obtain ⟨i, hi, hp⟩ := List.countP_pos_iff.1 this
      exact ⟨i, List.mem_range.1 hi, by simpa using hp⟩
    have hne : Region.ready .any ops listed ≠ [] := by
      obtain ⟨i, hi, hif⟩ := hex
      obtain ⟨k, hk, _⟩ := least_ready hE hn hs i i rfl hi hif
      intro h; rw [h] at hk; cases hk
    rw [show c + 1 + (ops.size - n) = (c + (ops.size - n)) + 1 by omega]
    refine ⟨fun h => absurd h hne, fun i hi => ?_⟩
    obtain ⟨hun, oi, hoi, hall⟩ := mem_ready.1 hi
    have li := (Array.getElem?_eq_some_iff.1 hoi).1
    have hif : listed.getD i false = false := by rw [← getD_ft (by omega)]; exact hun
    have hin : i < n := by
      rcases Nat.lt_or_ge i n with h | h
      · exact h
      · have h5 := List.all_eq_true.1 hS i (List.mem_range.2 li)
        rcases or_t h5 with h6 | h6
        · have := of_decide_eq_true h6; omega
        · obtain ⟨j, hj, hjf⟩ := hex
          have h7 := anc_ready hc hi j (List.all_eq_true.1 h6 j (List.mem_range.2 hj))
          rw [hjf] at h7; cases h7
    -- nobody looks at the slot of a free one that is still to come
    have hlook : ∀ t ∈ oi.looksAt ops, ∀ j, j < n → isF j = true → listed.getD j false = false → dstOf ops j ≠ some t := by
      intro t ht j hj hjF hjf hdj
      obtain ⟨oj, hoj, hdj'⟩ := dst_spec hdj
      have h5 := ((fxB_slot hB hoi hoj hin hj hdj').1 hjF).2 ht
      have h6 := tempsB_spec hM hoi hoj (by omega) hdj' (.inl ht)
      rw [show max i j = i by omega, show min i j = j by omega] at h6
      rw [anc_ready hc hi j h6] at hjf; cases hjf
    have hcount' : (List.range n).countP (fun j => !(listed.setIfInBounds i true).getD j false) = c := by
      have h5 := countP_set (fun _ => true) (fun j => listed.getD j false) i hif n hin
      have h6 : ∀ p : Nat → Bool, (List.range n).countP (fun j => !p j) + (List.range n).countP p = n := fun p => by
        have := List.length_eq_countP_add_countP (p := p) (l := List.range n)
        simp only [List.length_range] at this
        have h7 : (List.range n).countP (fun j => !p j) = (List.range n).countP (fun a => decide ¬p a = true) := List.countP_congr fun x _ => by simp
        omega
      have h7 := h6 (fun j => listed.getD j false)
      have h8 := h6 (fun j => (listed.setIfInBounds i true).getD j false)
      have h9 : (List.range n).countP (fun j => (listed.setIfInBounds i true).getD j false) = (List.range n).countP (fun j => true && (if j = i then true else listed.getD j false)) :=
        List.countP_congr fun x _ => by rw [getD_set_i (by omega)]; simp
      simp only [Bool.true_and, if_true] at h5 h9
      omega
    have hset : ∀ j, (listed.setIfInBounds i true).getD j false = false → listed.getD j false = false ∧ j ≠ i := fun j hj => by
      rw [getD_set_i (by omega)] at hj
      split at hj
      · cases hj
      · exact ⟨hj, by assumption⟩
    have hset' : ∀ j, listed.getD j false = false → j ≠ i → (listed.setIfInBounds i true).getD j false = false := fun j hj hji => by
      rw [getD_set_i (by omega), if_neg hji]; exact hj
    have hdi : dstOf ops i = oi.dst := by simp [dstOf, hoi]
    unfold wpOp
    simp only [hoi]
    by_cases him : isF i = true
    · -- a free one
      have hg := fxB_guard hB hoi hin him
      rw [if_pos (wanted_none hg _)]
      left
      have e1 : execOp a.eval oi = execOp (fill ops v isF a0 i).eval oi := execOp_of_get (ops := ops) oi (fun cs b => Region.noSelect_spec hsel i oi cs b hoi) fun t ht => by
        rw [h2 t (hlook t ht), h3 t (fun j h5 h6 hdj => by
          obtain ⟨oj, hoj, hdj'⟩ := dst_spec hdj
          exact (fxB_slot hB hoi hoj hin h6 hdj').2 h5 him ht)]
        have h5 := fill_get (ops := ops) v isF (fun j => isF j && decide (j < i)) a0 t n (fun j hj hdj => by
          obtain ⟨oj, hoj, hdj'⟩ := dst_spec hdj
          cases hjF : isF j with
          | false => simp
          | true =>
            have := ((fxB_slot hB hoi hoj hin hj hdj').1 hjF).2 ht
            simp [this])
        rw [h5, show n = i + (n - i) by omega, fill_ltX v isF a0 i (n - i)]
      refine gives_wp (R := fun u w' => u = v i ∧ w' = w) (by
        unfold gives
        rw [e1, hF i oi hin him hoi w hT.holds]
        exact ⟨rfl, rfl⟩) ?_
      rintro u w' ⟨rfl, rfl⟩
      refine ih _ cl _ aF _ (by simpa using hs) (closed_set hs hc hi) (fun t ht => hset' t (htl t ht) (by omega)) (fun j => ?_) hpw hcount' (by rw [put_size]; exact hsa) hsf (by rw [put_defers]; exact hd) (fun t ht => ?_) h3 hT
      · rw [hcl]
        exact ⟨fun ⟨g1, g2, g3⟩ => ⟨g1, g2, hset' j g3 (by rintro rfl; rw [him] at g1; cases g1)⟩, fun ⟨g1, g2, g3⟩ => ⟨g1, g2, (hset j g3).1⟩⟩
      · by_cases hdt : oi.dst = some t
        · rw [h3 t (fun j h5 h6 hdj => by
            obtain ⟨oj, hoj, hdj'⟩ := dst_spec hdj
            exact ((fxB_slot hB hoj hoi h6 hin hdt).1 him).1 (by rintro rfl; rw [him] at h5; cases h5) hdj'), hdt]
          exact (fill_ownX hB v a0 a him hin (by rw [hdi]; exact hdt) hsa).symm
        · rw [put_get _ _ _ _ hdt]
          exact h2 t fun j hj hjF hjf => by
            by_cases hji : j = i
            · subst hji; rw [hdi]; exact hdt
            · exact ht j hj hjF (hset' j hjf hji)
    · -- one of the others
      have hif' : isF i = false := by simpa using him
      have hicl : i ∈ cl := (hcl i).2 ⟨hif', hin, hif⟩
      obtain ⟨k, hk⟩ : ∃ k, cl.length = k + 1 := by
        cases cl with
        | nil => cases hicl
        | cons _ l => exact ⟨l.length, rfl⟩
      rw [hk] at hT
      obtain ⟨_, hT2⟩ := hT
      obtain ⟨o, ho, hg, hgv⟩ := hT2 i hicl (fun j hj => by
        obtain ⟨g1, g2, g3⟩ := (hcl j).1 hj
        cases hx : anc ops i j with
        | false => rfl
        | true =>
          have := anc_ready hc hi j hx
          rw [g3] at this; cases this)
      obtain rfl : oi = o := Option.some.inj (hoi.symm.trans ho)
      rw [if_pos (wanted_none hg _)]
      left
      have e1 : execOp a.eval oi = execOp aF.eval oi := execOp_of_get (ops := ops) oi (fun cs b => Region.noSelect_spec hsel i oi cs b hoi) fun t ht => h2 t (hlook t ht)
      have hlen : (cl.erase i).length = k := by rw [List.length_erase_of_mem hicl, hk]; rfl
      refine gives_wp (R := fun u w' => wpX P ops T (At P ops Q n) k (cl.erase i) (aF.put oi.dst u) w') (by
        unfold gives at hgv ⊢
        rw [e1]; exact hgv) ?_
      intro u w' hT'
      refine ih _ (cl.erase i) _ (aF.put oi.dst u) _ (by simpa using hs) (closed_set hs hc hi) (fun t ht => hset' t (htl t ht) (by omega)) (fun j => ?_) (hpw.erase i) hcount' (by rw [put_size]; exact hsa) (by rw [put_size]; exact hsf) (by rw [put_defers, put_defers]; exact hd) (fun t ht => ?_) (fun t ht => ?_) (by rw [hlen]; exact hT')
      · rw [List.Nodup.mem_erase_iff hpw]
        constructor
        · rintro ⟨g0, hj⟩
          obtain ⟨g1, g2, g3⟩ := (hcl j).1 hj
          exact ⟨g1, g2, hset' j g3 g0⟩
        · rintro ⟨g1, g2, g3⟩
          obtain ⟨g4, g5⟩ := hset j g3
          exact ⟨g5, (hcl j).2 ⟨g1, g2, g4⟩⟩
      · by_cases hdt : oi.dst = some t
        · exact put_get_same _ _ _ _ _ (by rw [hsa, hsf]) hdt
        · rw [put_get _ _ _ _ hdt, put_get _ _ _ _ hdt]
          exact h2 t fun j hj hjF hjf => ht j hj hjF (hset' j hjf (by rintro rfl; exact him hjF))
      · rw [put_get _ _ _ _ (by rw [← hdi]; exact ht i hif' hin)]
        exact h3 t ht
/-- The values of the free ones, one after the other. -/
def wpFx (P : Program) (ops : Array Oper) (T : World → Prop) (L : Act → Prop) : List Nat → Act → Prop
  | [], a => L a
  | i :: rest, a => ∃ o v, ops[i]? = some o ∧ (∀ w, T w → (execOp a.eval o).run P w = .ok (.value v) w) ∧ wpFx P ops T L rest (a.put o.dst v)
/-- The free ones from place i on. -/
def frees (isF : Nat → Bool) (i d : Nat) : List Nat := (List.range' i d).filter isF
theorem frees_succ (isF : Nat → Bool) (i d : Nat) : frees isF i (d + 1) = if isF i then i :: frees isF (i + 1) d else frees isF (i + 1) d := by
  unfold frees
  rw [List.range'_succ, List.filter_cons]
theorem vals_of_wpFx {T : World → Prop} {Lq : Act → Prop} {isF : Nat → Bool} (a0 : Act) : ∀ (d i : Nat) (a : Act) (vals0 : Nat → Value),
    a = fill ops vals0 isF a0 i → wpFx P ops T Lq (frees isF i d) a →
    ∃ vals : Nat → Value, (∀ j, j < i → vals j = vals0 j) ∧ (∀ j o, i ≤ j → j < i + d → isF j = true → ops[j]? = some o → ∀ w, T w → (execOp (fill ops vals isF a0 j).eval o).run P w = .ok (.value (vals j)) w) ∧
      Lq (fill ops vals isF a0 (i + d))
  | 0, i, a, vals0, ha, h => ⟨vals0, fun _ _ => rfl, fun j o h1 h2 => (by omega), by subst ha; exact h⟩
  | d + 1, i, a, vals0, ha, h => by
    rw [frees_succ] at h
    by_cases hi : isF i = true
    · rw [if_pos hi] at h
      obtain ⟨o, v, h0, hok, h'⟩ := h
      have hv1 : ∀ j, j < i → (fun j => if j = i then v else vals0 j) j = vals0 j := fun j hj => if_neg (by omega)
      obtain ⟨vals, e1, e2, e3⟩ := vals_of_wpFx a0 d (i + 1) (a.put o.dst v) (fun j => if j = i then v else vals0 j)
        (by
          subst ha
          rw [fill_succ, if_pos hi, fill_valsX (fun j => if j = i then v else vals0 j) vals0 isF a0 i hv1]
          simp [dstOf, h0]) h'
      have ei : vals i = v := by rw [e1 i (by omega)]; simp
      have ef : fill ops vals isF a0 i = fill ops vals0 isF a0 i := fill_valsX _ _ _ a0 i (fun j hj => by rw [e1 j (by omega), if_neg (by omega)])
      refine ⟨vals, fun j hj => by rw [e1 j (by omega), if_neg (by omega)], fun j o' h1 h2 hf ho => ?_, by simpa [Nat.add_assoc, Nat.add_comm 1] using e3⟩
      by_cases hj : j = i
      · subst hj
        obtain rfl : o' = o := Option.some.inj (ho.symm.trans h0)
        rw [ef, ei, ← ha]; exact hok
      · exact e2 j o' (by omega) (by omega) hf ho
    · rw [if_neg hi] at h
      obtain ⟨vals, e1, e2, e3⟩ := vals_of_wpFx a0 d (i + 1) a vals0 (by rw [fill_succ, if_neg hi]; exact ha) h
      refine ⟨vals, fun j hj => e1 j (by omega), fun j o' h1 h2 hf ho => ?_, by simpa [Nat.add_assoc, Nat.add_comm 1] using e3⟩
      by_cases hj : j = i
      · subst hj; exact absurd hf hi
      · exact e2 j o' (by omega) (by omega) hf ho
theorem at_freeX {a : Act} {w : World} (n : Nat) (isF : Nat → Bool) (T : World → Prop) (cl : List Nat) (hB : fxB (Region.before ops) ops n isF = true) (hcl : (List.range n).filter (fun i => !isF i) = cl)
    (h : wpFx P ops T (fun a' => wpX P ops T (At P ops Q n) cl.length cl a' w) (frees isF 0 n) a) : At P ops Q 0 a w := by
  intro listed hs hc hl
  have hB' := hB
  unfold fxB at hB'
  simp only [Bool.and_eq_true, decide_eq_true_eq] at hB'
  have hn : n ≤ ops.size := hB'.1.1.1.1.1.2
  obtain ⟨vals, _, e2, e3⟩ := vals_of_wpFx (ops := ops) (isF := isF) a n 0 a (fun _ => undef) rfl h
  rw [Nat.zero_add] at e3
  have hz : ∀ j, listed.getD j false = false := fun j => by
    rcases Nat.lt_or_ge j ops.size with h' | h'
    · rw [hl j h']; simp
    · simp [Array.getElem?_eq_none (show listed.size ≤ j by omega)]
  have key := wpAny_freeX (P := P) (Q := Q) (ops := ops) hB vals a T (fun i o hi hf ho => e2 i o (Nat.zero_le _) (by omega) hf ho) n listed cl a (fill ops vals isF a n) w hs hc (fun t _ => hz t)
    (fun i => by
      rw [← hcl, List.mem_filter, List.mem_range]
      constructor
      · rintro ⟨g1, g2⟩; exact ⟨by simpa using g2, g1, hz i⟩
      · rintro ⟨g1, g2, _⟩; exact ⟨g2, by simp [g1]⟩)
    (by rw [← hcl]; exact (List.nodup_range).filter _)
    (by
      have : (List.range n).countP (fun j => !listed.getD j false) = (List.range n).length := List.countP_eq_length.2 fun j _ => by rw [hz]; rfl
      rw [this]; simp)
    rfl (fill_size _ _ _ _) (fill_defers _ _ _ _).symm
    (fun t ht => by
      have h5 := fill_get (ops := ops) vals (fun _ => false) isF a t n (fun j hj hd => by
        cases hf : isF j with
        | false => rfl
        | true => exact absurd hd (ht j hj hf (hz j)))
      rw [← h5]
      have h6 : ∀ k, fill ops vals (fun _ => false) a k = a := fun k => by
        induction k with
        | zero => rfl
        | succ k ih => unfold fill; simp [ih]
      rw [h6])
    (fun t _ => rfl) e3
  rw [show n + (ops.size - n) = ops.size - 0 by omega] at key
  exact key
/-! The steps. -/
theorem wpFx_nil {T : World → Prop} {L : Act → Prop} {a : Act} (h : L a) : wpFx P ops T L [] a := h
theorem wpFx_op {T : World → Prop} {L : Act → Prop} {i : Nat} {rest : List Nat} {a : Act} {o : Oper} {v : Value} (ho : ops[i]? = some o) (h : ∀ w, T w → (execOp a.eval o).run P w = .ok (.value v) w) (hr : wpFx P ops T L rest (a.put o.dst v)) : wpFx P ops T L (i :: rest) a := ⟨o, v, ho, h, hr⟩
theorem wpX_nil {T : World → Prop} {L : Act → World → Prop} {l : List Nat} {a : Act} {w : World} (hT : T w) (h : L a w) : wpX P ops T L 0 l a w := ⟨hT, h⟩
theorem wpX_any {T : World → Prop} {L : Act → World → Prop} {k : Nat} {l : List Nat} {a : Act} {w : World} (hT : T w) (h : ∀ i ∈ l, (∀ j ∈ l, anc ops i j = false) → ∃ o, ops[i]? = some o ∧ o.guard = none ∧ gives P o a w fun v w' => wpX P ops T L k (l.erase i) (a.put o.dst v) w') : wpX P ops T L (k + 1) l a w := ⟨hT, h⟩
end
end Go.Ph
