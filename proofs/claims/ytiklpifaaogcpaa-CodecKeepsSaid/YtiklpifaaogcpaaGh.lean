/- A stage of a region that draws, in which several operations come to values that are known of them alone. No condition but what each theorem asks. -/
import Derived.Test.YtiklpifaaogcpaaPh
namespace Go.Ph
open Go
section
variable {P : Program} {ops : Array Oper} {Q : Exit → Act → World → Prop}
def mix (E : Nat → Bool) (us vals : Nat → Value) : Nat → Value := fun j => if E j then us j else vals j
theorem wpAny_many {W0 : World} (E : Nat → Bool) (G : Nat → Value → World → Prop) (hG : ∀ e v, Mono1 (G e v)) {s n : Nat} (hB : phS (Region.before ops) ops s n (fun _ => (0, 0, 0)) = true)
    (vals : Nat → Value) (a0 : Act)
    (hok : ∀ i o, s ≤ i → i < n → ops[i]? = some o → ∀ us, (E i = true → Region.wanted o (yielded ops (fill ops (mix E us vals) (fun _ => true) a0 i).tmps) = true ∧
        ∀ w, RowKit.Below W0.heap.size W0 w → (∀ e, s ≤ e → e < n → E e = true → ((Region.before ops).getD i 0).testBit e = true → G e (us e) w) → gives P o (fill ops (mix E us vals) (fun _ => true) a0 i) w fun u w' => RowKit.Below w.heap.size w w' ∧ G i u w') ∧
      (E i = false → (Region.wanted o (yielded ops (fill ops (mix E us vals) (fun _ => true) a0 i).tmps) = true ∧
        ∀ w, RowKit.Below W0.heap.size W0 w → gives P o (fill ops (mix E us vals) (fun _ => true) a0 i) w fun u w' => u = vals i ∧ RowKit.Below w.heap.size w w') ∨
        (Region.wanted o (yielded ops (fill ops (mix E us vals) (fun _ => true) a0 i).tmps) = false ∧ vals i = undef)))
    (htail : ∀ us w, RowKit.Below W0.heap.size W0 w → (∀ e, s ≤ e → e < n → E e = true → G e (us e) w) → At P ops Q n (fill ops (mix E us vals) (fun _ => true) a0 n) w) :
    ∀ (c : Nat) (us : Nat → Value) (listed : Array Bool) (w : World), listed.size = ops.size → Closed ops listed → (∀ t, n ≤ t → listed.getD t false = false) → (∀ t, t < s → listed.getD t false = true) →
      (List.range n).countP (fun j => !listed.getD j false) = c → RowKit.Below W0.heap.size W0 w → (∀ e, s ≤ e → e < n → E e = true → listed.getD e false = true → G e (us e) w) →
      wpAny P .any ops Q (c + (ops.size - n)) listed (fill ops (mix E us vals) (fun j => listed.getD j false) a0 n) w := by
  have hB0 := hB
  unfold phS at hB
  simp only [Bool.and_eq_true, decide_eq_true_eq] at hB
  obtain ⟨⟨⟨⟨⟨⟨hsel, hn⟩, hE⟩, hT⟩, hM⟩, hP⟩, _⟩ := hB
  intro c
  induction c with
  | zero =>
    intro us listed w hs hc htl hlo hcount hS hgs
    have hall : ∀ j, j < n → listed.getD j false = true := fun j hj => by
      have := (List.countP_eq_zero.1 hcount) j (List.mem_range.2 hj)
      simpa using this
    rw [fill_congr (mix E us vals) (fun j => listed.getD j false) (fun _ => true) a0 n hall, Nat.zero_add]
    exact htail us w hS (fun e h1 h2 h3 => hgs e h1 h2 h3 (hall e h2)) listed hs hc (fun j hj => by
      rcases Nat.lt_or_ge j n with h' | h'
      · rw [hall j h']; simp [h']
      · rw [htl j h']; simp; omega)
  | succ c ih =>
    intro us listed w hs hc htl hlo hcount hS hgs
    -- somebody of the head is not listed
    have hex : ∃ i, i < n ∧ listed.getD i false = false := by
      have : 0 < (List.range n).countP (fun j => !listed.getD j false) := by omega
      obtain ⟨i, hi, hp⟩ := List.countP_pos_iff.1 this
      exact ⟨i, List.mem_range.1 hi, by simpa using hp⟩
    have hhead : ∀ i ∈ Region.ready .any ops listed, i < n := by
      intro i hi
      rcases Nat.lt_or_ge i n with h | h
      · exact h
      · obtain ⟨hun, oi, hoi, _⟩ := mem_ready.1 hi
        have li := (Array.getElem?_eq_some_iff.1 hoi).1
        have h2 := List.all_eq_true.1 hT i (List.mem_range.2 li)
        rcases or_t h2 with h3 | h3
        · have := of_decide_eq_true h3; omega
        · obtain ⟨j, hj, hjf⟩ := hex
          have h4 := anc_ready hc hi j (List.all_eq_true.1 h3 j (List.mem_range.2 hj))
          rw [hjf] at h4; cases h4
    have hne : Region.ready .any ops listed ≠ [] := by
      -- the least one that is not listed
      have : ∀ d i, i = d → i < n → listed.getD i false = false → Region.ready .any ops listed ≠ [] := by
        intro d
        induction d using Nat.strongRecOn with
        | _ d ihd =>
          intro i hid hin hif
          have li : i < ops.size := by omega
          by_cases hr : i ∈ Region.ready .any ops listed
          · intro h; rw [h] at hr; cases hr
          · have hox : ops[i]? = some ops[i] := by simp [li]
            have : ∃ e ∈ ops[i].after, Region.binds .any e = true ∧ listed.getD e.on false = false := by
              refine Classical.byContradiction fun hno => hr (mem_ready.2 ⟨by rw [getD_ft (by omega)]; exact hif, _, hox, fun e he hb => ?_⟩)
              cases hx : listed.getD e.on false with
              | true => rfl
              | false => exact absurd ⟨e, he, hb, hx⟩ hno
            obtain ⟨e, he, hb, hx⟩ := this
            have h1 := List.all_eq_true.1 hE i (List.mem_range.2 li)
            simp only [hox] at h1
            have h2 := Array.all_eq_true_iff_forall_mem.1 h1 e he
            simp only [hb, Bool.not_true, Bool.false_or, decide_eq_true_eq] at h2
            exact ihd e.on (by omega) e.on rfl (by omega) hx
      obtain ⟨i, hi, hif⟩ := hex
      exact this i i rfl hi hif
    rw [show c + 1 + (ops.size - n) = (c + (ops.size - n)) + 1 by omega]
    refine ⟨fun h => absurd h hne, fun i hi => ?_⟩
    have hin := hhead i hi
    obtain ⟨hun, oi, hoi, hall⟩ := mem_ready.1 hi
    have li := (Array.getElem?_eq_some_iff.1 hoi).1
    have hif : listed.getD i false = false := by rw [← getD_ft (by omega)]; exact hun
    -- a listed one does not have i ahead of it
    have hno : ∀ j, listed.getD j false = true → anc ops j i = true → False := fun j hj h => by
      have := anc_listed hc j hj i h; rw [hif] at this; cases this
    have hdst : ∀ j t, dstOf ops j = some t → ∃ oj, ops[j]? = some oj ∧ oj.dst = some t := fun j t h => by
      unfold dstOf at h
      cases hj : ops[j]? with
      | none => rw [hj] at h; cases h
      | some oj => rw [hj] at h; exact ⟨oj, rfl, h⟩
    have hget : ∀ t ∈ oi.looksAt ops, (fill ops (mix E us vals) (fun j => listed.getD j false) a0 n).tmps[t]? = (fill ops (mix E us vals) (fun _ => true) a0 i).tmps[t]? := by
      intro t ht
      have key : ∀ j, j < n → dstOf ops j = some t → listed.getD j false = decide (j < i) := by
        intro j hj hd
        obtain ⟨oj, hoj, hdj⟩ := hdst j t hd
        rcases Nat.lt_trichotomy j i with h1 | h1 | h1
        · have := tempsB_spec hM hoi hoj (by omega) hdj (.inl ht)
          rw [show max i j = i by omega, show min i j = j by omega] at this
          rw [anc_ready hc hi j this]; simp [h1]
        · subst h1; rw [hif]; simp
        · have := tempsB_spec hM hoi hoj (by omega) hdj (.inl ht)
          rw [show max i j = j by omega, show min i j = i by omega] at this
          cases hl : listed.getD j false with
          | true => exact (hno j hl this).elim
          | false => simp; omega
      have e1 := fill_get (ops := ops) (mix E us vals) (fun j => listed.getD j false) (fun j => decide (j < i)) a0 t n key
      rw [e1]
      rw [show n = i + (n - i) by omega, fill_lt _ a0 i (n - i)]
    have hcount' : (List.range n).countP (fun j => !(listed.setIfInBounds i true).getD j false) = c := by
      have h1 := countP_set (fun _ => true) (fun j => listed.getD j false) i hif n hin
      have h2 : ∀ p : Nat → Bool, (List.range n).countP (fun j => !p j) + (List.range n).countP p = n := fun p => by
        have := List.length_eq_countP_add_countP (p := p) (l := List.range n)
        simp only [List.length_range] at this
        have h3 : (List.range n).countP (fun j => !p j) = (List.range n).countP (fun a => decide ¬p a = true) := List.countP_congr fun x _ => by simp
        omega
      have h4 := h2 (fun j => listed.getD j false)
      have h5 := h2 (fun j => (listed.setIfInBounds i true).getD j false)
      have h6 : (List.range n).countP (fun j => (listed.setIfInBounds i true).getD j false) = (List.range n).countP (fun j => if j = i then true else listed.getD j false) :=
        List.countP_congr fun x _ => by rw [getD_set_i (by omega)]
      simp only [Bool.true_and, if_true] at h1
      omega
    have hclosed' := closed_set hs hc hi
    have htl' : ∀ t, n ≤ t → (listed.setIfInBounds i true).getD t false = false := fun t ht => by
      rw [getD_set_ne false (by omega)]; exact htl t ht
    have hsi : s ≤ i := by
      rcases Nat.lt_or_ge i s with h | h
      · rw [hlo i h] at hif; cases hif
      · exact h
    have hlo' : ∀ t, t < s → (listed.setIfInBounds i true).getD t false = true := fun t ht => by
      rw [getD_set_ne false (by omega)]; exact hlo t ht
    have hsl := fun cs b => Region.noSelect_spec hsel i oi cs b hoi
    unfold wpOp
    simp only [hoi]
    rw [wanted_of_get oi hget]
    -- what is put is what is filled
    have hputg : ∀ (us' : Nat → Value) (u : Value), mix E us' vals i = u → (∀ j, j ≠ i → us' j = us j) → (fill ops (mix E us vals) (fun j => listed.getD j false) a0 n).put oi.dst u = fill ops (mix E us' vals) (fun j => (listed.setIfInBounds i true).getD j false) a0 n := by
      intro us' u hu hus
      have hd : oi.dst = dstOf ops i := by simp [dstOf, hoi]
      have e0 : fill ops (mix E us vals) (fun j => listed.getD j false) a0 n = fill ops (mix E us' vals) (fun j => listed.getD j false) a0 n := fill_vals_L _ _ _ a0 n (fun j _ hl => by
        by_cases hji : j = i
        · subst hji; rw [hif] at hl; cases hl
        · unfold mix; rw [hus j hji])
      rw [e0, hd]
      have h3 := fill_put (mix E us' vals) (fun j => listed.getD j false) a0 i hif (fun j hij hl d hdi hdj => by
        obtain ⟨oj, hoj, hdj'⟩ := hdst j d hdj
        have := tempsB_spec hM hoi hoj (by omega) hdj' (.inr (by rw [hd]; exact hdi))
        rw [show max i j = j by omega, show min i j = i by omega] at this
        exact hno j hl this) n hin
      rw [hu] at h3
      rw [h3]
      exact fill_congr _ _ _ a0 n (fun j _ => by rw [getD_set_i (by omega)])
    obtain ⟨hx1, hx2⟩ := hok i oi hsi hin hoi us
    cases hei : E i with
    | true =>
      obtain ⟨hw, hg⟩ := hx1 hei
      rw [if_pos hw]
      left
      refine gives_wp (R := fun u w' => RowKit.Below w.heap.size w w' ∧ G i u w') ?_ (fun v w' ⟨h1, h2⟩ => ?_)
      · unfold gives
        rw [execOp_of_get oi hsl hget]
        exact hg w hS (fun e h1 h2 h3 h4 => hgs e h1 h2 h3 (anc_ready hc hi e h4))
      · rw [hputg (fun j => if j = i then v else us j) v (by unfold mix; simp [hei]) (fun j hj => if_neg hj)]
        refine ih _ (listed.setIfInBounds i true) w' (by simpa using hs) hclosed' htl' hlo' hcount' (hS.trans (h1.mono hS.size)) (fun e h3 h4 h5 h6 => ?_)
        by_cases hei' : e = i
        · subst hei'; simp only [if_true]; exact h2
        · simp only [if_neg hei']
          rw [getD_set_ne false (fun h => hei' h.symm)] at h6
          exact hG e _ _ _ (hgs e h3 h4 h5 h6) h1
    | false =>
      have hfin : ∀ w', RowKit.Below w.heap.size w w' → wpAny P .any ops Q (c + (ops.size - n)) (listed.setIfInBounds i true) ((fill ops (mix E us vals) (fun j => listed.getD j false) a0 n).put oi.dst (vals i)) w' := fun w' h1 => by
        rw [hputg us (vals i) (by unfold mix; simp [hei]) (fun _ _ => rfl)]
        refine ih _ (listed.setIfInBounds i true) w' (by simpa using hs) hclosed' htl' hlo' hcount' (hS.trans (h1.mono hS.size)) (fun e h3 h4 h5 h6 => ?_)
        have hei' : e ≠ i := fun h => by rw [h, hei] at h5; cases h5
        rw [getD_set_ne false (fun h => hei' h.symm)] at h6
        exact hG e _ _ _ (hgs e h3 h4 h5 h6) h1
      rcases hx2 hei with ⟨hw, hg⟩ | ⟨hw, hv⟩
      · rw [if_pos hw]
        left
        refine gives_wp (R := fun u w' => u = vals i ∧ RowKit.Below w.heap.size w w') ?_ (fun v w' ⟨h1, h2⟩ => by subst h1; exact hfin w' h2)
        unfold gives
        rw [execOp_of_get oi hsl hget]
        exact hg w hS
      · rw [if_neg (by rw [hw]; simp)]
        have := hfin w (RowKit.Below.refl _ _)
        rw [hv] at this
        exact this

/-- A stage of quiet operations, and some (those of E), none of which waits for another of them, whose values are known of them alone. -/
def wpM (P : Program) (ops : Array Oper) (W : World) (E : Nat → Bool) (G : Nat → Value → World → Prop) (L : Act → Prop) : Nat → List Oper → Act → Prop
  | _, [], a => L a
  | i, o :: rest, a =>
    (E i = true ∧ (Region.wanted o (yielded ops a.tmps) = true ∧ ∀ w, RowKit.Below W.heap.size W w → gives P o a w fun u w' => RowKit.Below w.heap.size w w' ∧ G i u w') ∧ wpM P ops W E G L (i + 1) rest a) ∨
    (E i = false ∧ ∃ v, ((Region.wanted o (yielded ops a.tmps) = true ∧ ∀ w, RowKit.Below W.heap.size W w → gives P o a w fun u w' => u = v ∧ RowKit.Below w.heap.size w w') ∨ (Region.wanted o (yielded ops a.tmps) = false ∧ v = undef)) ∧ wpM P ops W E G L (i + 1) rest (a.put o.dst v))
theorem vals_of_wpM {W : World} {E : Nat → Bool} {G : Nat → Value → World → Prop} {Lq : Act → Prop} (a0 : Act) : ∀ (l : List Oper) (i : Nat) (a : Act) (vals0 : Nat → Value),
    (∀ j, j < l.length → l[j]? = ops[i + j]?) → a = fill ops vals0 (fun _ => true) a0 i → wpM P ops W E G Lq i l a →
    ∃ vals : Nat → Value, (∀ j, j < i → vals j = vals0 j) ∧
      (∀ j o, i ≤ j → j < i + l.length → ops[j]? = some o → E j = false → (Region.wanted o (yielded ops (fill ops vals (fun _ => true) a0 j).tmps) = true ∧ ∀ w, RowKit.Below W.heap.size W w → gives P o (fill ops vals (fun _ => true) a0 j) w fun u w' => u = vals j ∧ RowKit.Below w.heap.size w w') ∨
        (Region.wanted o (yielded ops (fill ops vals (fun _ => true) a0 j).tmps) = false ∧ vals j = undef)) ∧
      (∀ j o, i ≤ j → j < i + l.length → ops[j]? = some o → E j = true → Region.wanted o (yielded ops (fill ops vals (fun _ => true) a0 j).tmps) = true ∧ (∀ w, RowKit.Below W.heap.size W w → gives P o (fill ops vals (fun _ => true) a0 j) w fun u w' => RowKit.Below w.heap.size w w' ∧ G j u w')) ∧
      Lq (fill ops vals (fun _ => true) a0 (i + l.length))
  | [], i, a, vals0, _, ha, h => ⟨vals0, fun _ _ => rfl, fun j o h1 h2 => (by simp at h2; omega), fun j o h1 h2 => (by simp at h2; omega), by subst ha; exact h⟩
  | o :: l, i, a, vals0, hl, ha, h => by
    have h0 : ops[i]? = some o := by simpa using (hl 0 (by simp)).symm
    have main : ∀ v, wpM P ops W E G Lq (i + 1) l (a.put o.dst v) → ∃ vals : Nat → Value, (∀ j, j < i + 1 → vals j = if j = i then v else vals0 j) ∧ fill ops vals (fun _ => true) a0 i = a ∧
        (∀ j o, i + 1 ≤ j → j < (i + 1) + l.length → ops[j]? = some o → E j = false → (Region.wanted o (yielded ops (fill ops vals (fun _ => true) a0 j).tmps) = true ∧ ∀ w, RowKit.Below W.heap.size W w → gives P o (fill ops vals (fun _ => true) a0 j) w fun u w' => u = vals j ∧ RowKit.Below w.heap.size w w') ∨
          (Region.wanted o (yielded ops (fill ops vals (fun _ => true) a0 j).tmps) = false ∧ vals j = undef)) ∧
        (∀ j o, i + 1 ≤ j → j < (i + 1) + l.length → ops[j]? = some o → E j = true → Region.wanted o (yielded ops (fill ops vals (fun _ => true) a0 j).tmps) = true ∧ (∀ w, RowKit.Below W.heap.size W w → gives P o (fill ops vals (fun _ => true) a0 j) w fun u w' => RowKit.Below w.heap.size w w' ∧ G j u w')) ∧
        Lq (fill ops vals (fun _ => true) a0 ((i + 1) + l.length)) := by
      intro v h'
      obtain ⟨vals, e1, e2, e2', e3⟩ := vals_of_wpM a0 l (i + 1) (a.put o.dst v) (fun j => if j = i then v else vals0 j)
        (fun j hj => by have := hl (j + 1) (by simp; omega); simpa [Nat.add_assoc, Nat.add_comm 1 j] using this)
        (by
          subst ha
          rw [fill_succ]
          simp only [if_true]
          rw [fill_vals (fun j => if j = i then v else vals0 j) vals0 _ a0 i (fun j hj => if_neg (by omega))]
          simp [dstOf, h0]) h'
      exact ⟨vals, e1, (fill_vals _ _ _ a0 i (fun j hj => by rw [e1 j (by omega), if_neg (by omega)])).trans ha.symm, e2, e2', e3⟩
    rcases h with ⟨hie, hwg, hr⟩ | ⟨hie, v, hx, hr⟩
    · have hst : a.put o.dst (match o.dst with | some d => a.tmps.getD d undef | none => undef) = a := by
        cases hd : o.dst with
        | none => rfl
        | some d => exact put_stand a d
      obtain ⟨vals, e1, ef, e2, e2', e3⟩ := main (match o.dst with | some d => a.tmps.getD d undef | none => undef) (by rw [hst]; exact hr)
      refine ⟨vals, fun j hj => by rw [e1 j (by omega), if_neg (by omega)], fun j o' h1 h2 ho hje => ?_, fun j o' h1 h2 ho hje => ?_, by simpa [Nat.add_assoc, Nat.add_comm 1] using e3⟩
      · by_cases hj : j = i
        · subst hj; rw [hie] at hje; cases hje
        · exact e2 j o' (by omega) (by simp only [List.length_cons] at h2; omega) ho hje
      · by_cases hj : j = i
        · subst hj
          obtain rfl : o' = o := Option.some.inj (ho.symm.trans h0)
          rw [ef]; exact hwg
        · exact e2' j o' (by omega) (by simp only [List.length_cons] at h2; omega) ho hje
    · obtain ⟨vals, e1, ef, e2, e2', e3⟩ := main v hr
      have ei : vals i = v := by rw [e1 i (by omega)]; simp
      refine ⟨vals, fun j hj => by rw [e1 j (by omega), if_neg (by omega)], fun j o' h1 h2 ho hje => ?_, fun j o' h1 h2 ho hje => ?_, by simpa [Nat.add_assoc, Nat.add_comm 1] using e3⟩
      · by_cases hj : j = i
        · subst hj
          obtain rfl : o' = o := Option.some.inj (ho.symm.trans h0)
          rw [ef, ei]; exact hx
        · exact e2 j o' (by omega) (by simp only [List.length_cons] at h2; omega) ho hje
      · by_cases hj : j = i
        · subst hj; rw [hie] at hje; cases hje
        · exact e2' j o' (by omega) (by simp only [List.length_cons] at h2; omega) ho hje
/-- What a ghost's slot holds, nobody of the stage looks at. -/
theorem look_one {s n e : Nat} {d : Tmp} (a : Act) (hN : noLookB ops s n e = true) (hd : dstOf ops e = some d) (hse : s ≤ e) (v : Nat → Value) (g : Value) :
    ∀ i o, s ≤ i → i < n → ops[i]? = some o → ∀ t ∈ o.looksAt ops, (fill ops (fun j => if j = e then g else v j) (fun _ => true) a i).tmps[t]? = (fill ops v (fun _ => true) a i).tmps[t]? := by
  have hno : ∀ i o, s ≤ i → i < n → i ≠ e → ops[i]? = some o → d ∉ o.looksAt ops ∧ o.dst ≠ some d := by
    intro i o h1 h2 h3 ho
    have := List.all_eq_true.1 hN i (List.mem_range.2 h2)
    simp only [ho, hd, Bool.or_eq_true, decide_eq_true_eq, beq_iff_eq, Bool.and_eq_true, Bool.not_eq_true', bne_iff_ne] at this
    rcases this with (h4 | h4) | h4
    · omega
    · exact absurd h4 h3
    · exact ⟨by simpa using h4.1, h4.2⟩
  intro i o h1 h2 ho t ht
  by_cases hei : e < i
  · have htd : t ≠ d := fun h => (hno i o h1 h2 (by omega) ho).1 (h ▸ ht)
    rw [fill_ghost a hd i hei (fun j h4 h5 hdj => by
      obtain ⟨oj, hoj, hdj'⟩ := dst_spec0 hdj
      exact (hno j oj (by omega) (by omega) (by omega) hoj).2 hdj'), put_get _ _ _ _ (by simpa using fun h => htd h.symm)]
  · rw [fill_vals _ v _ a i (fun j hj => if_neg (by omega))]
theorem last_one {s n e : Nat} {d : Tmp} (hN : noLookB ops s n e = true) (hd : dstOf ops e = some d) (hse : s ≤ e) : ∀ j, e < j → j < n → dstOf ops j ≠ some d := by
  intro j h1 h2 hdj
  obtain ⟨oj, hoj, hdj'⟩ := dst_spec0 hdj
  have := List.all_eq_true.1 hN j (List.mem_range.2 h2)
  simp only [hoj, hd, Bool.or_eq_true, decide_eq_true_eq, beq_iff_eq, Bool.and_eq_true, Bool.not_eq_true', bne_iff_ne] at this
  rcases this with (h4 | h4) | h4
  · omega
  · omega
  · exact h4.2 hdj'
def two (e1 e2 : Nat) : Nat → Bool := fun j => j == e1 || j == e2
theorem mix_two (e1 e2 : Nat) (us vals : Nat → Value) : mix (two e1 e2) us vals = fun j => if j = e1 then us e1 else if j = e2 then us e2 else vals j := by
  funext j
  unfold mix two
  by_cases h1 : j = e1
  · subst h1; simp
  · by_cases h2 : j = e2
    · subst h2; simp [h1]
    · simp [h1, h2]
theorem at_two {s : Nat} {a : Act} {w : World} (n e1 e2 : Nat) (d1 d2 : Tmp) (G : Nat → Value → World → Prop) (hG : ∀ e v, Mono1 (G e v)) (hB : phS (Region.before ops) ops s n (fun _ => (0, 0, 0)) = true)
    (hN1 : noLookB ops s n e1 = true) (hN2 : noLookB ops s n e2 = true) (hs1 : s ≤ e1) (hn1 : e1 < n) (hs2 : s ≤ e2) (hn2 : e2 < n) (hd1 : dstOf ops e1 = some d1) (hd2 : dstOf ops e2 = some d2)
    (h : wpM P ops w (two e1 e2) G (fun a' => ∀ u1 u2 w', RowKit.Below w.heap.size w w' → G e1 u1 w' → G e2 u2 w' → At P ops Q n ((a'.put (some d2) u2).put (some d1) u1) w') s ((ops.toList.take n).drop s) a) : At P ops Q s a w := by
  intro listed hs hc hl
  have hB' := hB
  unfold phS at hB'
  simp only [Bool.and_eq_true, decide_eq_true_eq] at hB'
  have hn : n ≤ ops.size := hB'.1.1.1.1.1.2
  have hsel := hB'.1.1.1.1.1.1
  have hsn : s ≤ n := hB'.2
  have hlen : ((ops.toList.take n).drop s).length = n - s := by simp; omega
  obtain ⟨vals, x1, x2, x2', x3⟩ := vals_of_wpM (ops := ops) a ((ops.toList.take n).drop s) s a (stand ops a) (fun j hj => by
    rw [hlen] at hj
    rw [List.getElem?_drop, List.getElem?_take, if_pos (by omega)]; simp) (fill_stand a s).symm h
  rw [hlen, show s + (n - s) = n by omega] at x2 x2' x3
  have efs : fill ops vals (fun _ => true) a s = a := (fill_vals vals (stand ops a) _ a s x1).trans (fill_stand a s)
  have hmask : ∀ j, j < n → listed.getD j false = decide (j < s) := fun j hj => hl j (by omega)
  have hgets : ∀ us i o, s ≤ i → i < n → ops[i]? = some o → ∀ t ∈ o.looksAt ops, (fill ops (mix (two e1 e2) us vals) (fun _ => true) a i).tmps[t]? = (fill ops vals (fun _ => true) a i).tmps[t]? := by
    intro us i o h1 h2 ho t ht
    rw [mix_two, look_one a hN1 hd1 hs1 (fun j => if j = e2 then us e2 else vals j) (us e1) i o h1 h2 ho t ht]
    exact look_one a hN2 hd2 hs2 vals (us e2) i o h1 h2 ho t ht
  have key := wpAny_many (P := P) (Q := Q) (ops := ops) (W0 := w) (two e1 e2) G hG (s := s) (n := n) hB vals a
    (fun i o h1 h2 ho us => by
      have hsl := fun cs b => Region.noSelect_spec hsel i o cs b ho
      have hgt := hgets us i o h1 h2 ho
      rw [wanted_of_get o hgt]
      have hgv : ∀ w1 R, gives P o (fill ops vals (fun _ => true) a i) w1 R → gives P o (fill ops (mix (two e1 e2) us vals) (fun _ => true) a i) w1 R := fun w1 R hh => by
        unfold gives at hh ⊢
        rw [execOp_of_get o hsl hgt]; exact hh
      refine ⟨fun hE => ?_, fun hE => ?_⟩
      · obtain ⟨hw, hg⟩ := x2' i o h1 h2 ho hE
        exact ⟨hw, fun w1 hb _ => hgv w1 _ (hg w1 hb)⟩
      · rcases x2 i o h1 h2 ho hE with ⟨hw, hg⟩ | hx
        · exact .inl ⟨hw, fun w1 hb => hgv w1 _ (hg w1 hb)⟩
        · exact .inr hx)
    (fun us w1 hb hgs => by
      rw [mix_two, fill_ghost (vals := fun j => if j = e2 then us e2 else vals j) a hd1 n hn1 (last_one hN1 hd1 hs1), fill_ghost a hd2 n hn2 (last_one hN2 hd2 hs2)]
      exact x3 (us e1) (us e2) w1 hb (hgs e1 hs1 hn1 (by simp [two])) (hgs e2 hs2 hn2 (by simp [two]))) (n - s) (fun _ => undef) listed w hs hc
    (fun t ht => by
      rcases Nat.lt_or_ge t ops.size with h' | h'
      · rw [hl t h']; simp; omega
      · simp [Array.getElem?_eq_none (show listed.size ≤ t by omega)])
    (fun t ht => by rw [hl t (by omega)]; simp [ht])
    (by
      have h2 : ∀ m, m ≤ n → (List.range m).countP (fun j => !listed.getD j false) = m - s := by
        intro m
        induction m with
        | zero => intro _; simp
        | succ m ih =>
          intro hm
          rw [List.range_succ, List.countP_append, ih (by omega)]
          simp only [List.countP_cons, List.countP_nil, hmask m (by omega)]
          by_cases hms : m < s
          · simp [hms]; omega
          · simp [hms]; omega
      exact h2 n (Nat.le_refl _))
    (RowKit.Below.refl _ _) (fun e h1 h2 h3 h4 => by rw [hmask e h2] at h4; simp at h4; omega)
  have ef : fill ops (mix (two e1 e2) (fun _ => undef) vals) (fun j => listed.getD j false) a n = a := by
    rw [fill_congr (mix (two e1 e2) (fun _ => undef) vals) (fun j => listed.getD j false) (fun j => decide (j < s)) a n hmask]
    have := fill_lt (ops := ops) (mix (two e1 e2) (fun _ => undef) vals) a s (n - s)
    rw [show s + (n - s) = n by omega] at this
    rw [this, fill_vals _ vals _ a s (fun j hj => by unfold mix two; simp; intro h; omega)]; exact efs
  rw [ef, show n - s + (ops.size - n) = ops.size - s by omega] at key
  exact key
theorem wpM_nil {W : World} {E : Nat → Bool} {G : Nat → Value → World → Prop} {L : Act → Prop} {i : Nat} {a : Act} (h : L a) : wpM P ops W E G L i [] a := h
theorem wpM_e {W : World} {E : Nat → Bool} {G : Nat → Value → World → Prop} {L : Act → Prop} {i : Nat} {a : Act} {o : Oper} {rest : List Oper} (hE : E i = true) (hw : Region.wanted o (yielded ops a.tmps) = true)
    (h : ∀ w, RowKit.Below W.heap.size W w → gives P o a w fun u w' => RowKit.Below w.heap.size w w' ∧ G i u w') (hr : wpM P ops W E G L (i + 1) rest a) : wpM P ops W E G L i (o :: rest) a :=
  .inl ⟨hE, ⟨hw, h⟩, hr⟩
theorem wpM_g {W : World} {E : Nat → Bool} {G : Nat → Value → World → Prop} {L : Act → Prop} {i : Nat} {a : Act} {o : Oper} {rest : List Oper} {v : Value} (hE : E i = false)
    (h : ∀ w, RowKit.Below W.heap.size W w → if Region.wanted o (yielded ops a.tmps) then givesV P o a w v (fun w' => RowKit.Below w.heap.size w w') else undef = v)
    (hr : wpM P ops W E G L (i + 1) rest (a.put o.dst v)) : wpM P ops W E G L i (o :: rest) a := by
  refine .inr ⟨hE, v, ?_, hr⟩
  by_cases hw : Region.wanted o (yielded ops a.tmps) = true
  · exact .inl ⟨hw, fun w1 hb => by have := h w1 hb; rw [if_pos hw] at this; exact givesV_gives this⟩
  · have := h W (RowKit.Below.refl _ _)
    rw [if_neg hw] at this
    exact .inr ⟨by simpa using hw, this.symm⟩

/-- As wpM; what is asked of one of E is C. -/
def wpC (P : Program) (ops : Array Oper) (W : World) (E : Nat → Bool) (C : Nat → Oper → Act → Prop) (L : Act → Prop) : Nat → List Oper → Act → Prop
  | _, [], a => L a
  | i, o :: rest, a =>
    (E i = true ∧ C i o a ∧ wpC P ops W E C L (i + 1) rest a) ∨
    (E i = false ∧ ∃ v, ((Region.wanted o (yielded ops a.tmps) = true ∧ ∀ w, RowKit.Below W.heap.size W w → gives P o a w fun u w' => u = v ∧ RowKit.Below w.heap.size w w') ∨ (Region.wanted o (yielded ops a.tmps) = false ∧ v = undef)) ∧ wpC P ops W E C L (i + 1) rest (a.put o.dst v))
theorem vals_of_wpC {W : World} {E : Nat → Bool} {C : Nat → Oper → Act → Prop} {Lq : Act → Prop} (a0 : Act) : ∀ (l : List Oper) (i : Nat) (a : Act) (vals0 : Nat → Value),
    (∀ j, j < l.length → l[j]? = ops[i + j]?) → a = fill ops vals0 (fun _ => true) a0 i → wpC P ops W E C Lq i l a →
    ∃ vals : Nat → Value, (∀ j, j < i → vals j = vals0 j) ∧
      (∀ j o, i ≤ j → j < i + l.length → ops[j]? = some o → E j = false → (Region.wanted o (yielded ops (fill ops vals (fun _ => true) a0 j).tmps) = true ∧ ∀ w, RowKit.Below W.heap.size W w → gives P o (fill ops vals (fun _ => true) a0 j) w fun u w' => u = vals j ∧ RowKit.Below w.heap.size w w') ∨
        (Region.wanted o (yielded ops (fill ops vals (fun _ => true) a0 j).tmps) = false ∧ vals j = undef)) ∧
      (∀ j o, i ≤ j → j < i + l.length → ops[j]? = some o → E j = true → C j o (fill ops vals (fun _ => true) a0 j)) ∧
      Lq (fill ops vals (fun _ => true) a0 (i + l.length))
  | [], i, a, vals0, _, ha, h => ⟨vals0, fun _ _ => rfl, fun j o h1 h2 => (by simp at h2; omega), fun j o h1 h2 => (by simp at h2; omega), by subst ha; exact h⟩
  | o :: l, i, a, vals0, hl, ha, h => by
    have h0 : ops[i]? = some o := by simpa using (hl 0 (by simp)).symm
    have main : ∀ v, wpC P ops W E C Lq (i + 1) l (a.put o.dst v) → ∃ vals : Nat → Value, (∀ j, j < i + 1 → vals j = if j = i then v else vals0 j) ∧ fill ops vals (fun _ => true) a0 i = a ∧
        (∀ j o, i + 1 ≤ j → j < (i + 1) + l.length → ops[j]? = some o → E j = false → (Region.wanted o (yielded ops (fill ops vals (fun _ => true) a0 j).tmps) = true ∧ ∀ w, RowKit.Below W.heap.size W w → gives P o (fill ops vals (fun _ => true) a0 j) w fun u w' => u = vals j ∧ RowKit.Below w.heap.size w w') ∨
          (Region.wanted o (yielded ops (fill ops vals (fun _ => true) a0 j).tmps) = false ∧ vals j = undef)) ∧
        (∀ j o, i + 1 ≤ j → j < (i + 1) + l.length → ops[j]? = some o → E j = true → C j o (fill ops vals (fun _ => true) a0 j)) ∧
        Lq (fill ops vals (fun _ => true) a0 ((i + 1) + l.length)) := by
      intro v h'
      obtain ⟨vals, e1, e2, e2', e3⟩ := vals_of_wpC a0 l (i + 1) (a.put o.dst v) (fun j => if j = i then v else vals0 j)
        (fun j hj => by have := hl (j + 1) (by simp; omega); simpa [Nat.add_assoc, Nat.add_comm 1 j] using this)
        (by
          subst ha
          rw [fill_succ]
          simp only [if_true]
          rw [fill_vals (fun j => if j = i then v else vals0 j) vals0 _ a0 i (fun j hj => if_neg (by omega))]
          simp [dstOf, h0]) h'
      exact ⟨vals, e1, (fill_vals _ _ _ a0 i (fun j hj => by rw [e1 j (by omega), if_neg (by omega)])).trans ha.symm, e2, e2', e3⟩
    rcases h with ⟨hie, hwg, hr⟩ | ⟨hie, v, hx, hr⟩
    · have hst : a.put o.dst (match o.dst with | some d => a.tmps.getD d undef | none => undef) = a := by
        cases hd : o.dst with
        | none => rfl
        | some d => exact put_stand a d
      obtain ⟨vals, e1, ef, e2, e2', e3⟩ := main (match o.dst with | some d => a.tmps.getD d undef | none => undef) (by rw [hst]; exact hr)
      refine ⟨vals, fun j hj => by rw [e1 j (by omega), if_neg (by omega)], fun j o' h1 h2 ho hje => ?_, fun j o' h1 h2 ho hje => ?_, by simpa [Nat.add_assoc, Nat.add_comm 1] using e3⟩
      · by_cases hj : j = i
        · subst hj; rw [hie] at hje; cases hje
        · exact e2 j o' (by omega) (by simp only [List.length_cons] at h2; omega) ho hje
      · by_cases hj : j = i
        · subst hj
          obtain rfl : o' = o := Option.some.inj (ho.symm.trans h0)
          rw [ef]; exact hwg
        · exact e2' j o' (by omega) (by simp only [List.length_cons] at h2; omega) ho hje
    · obtain ⟨vals, e1, ef, e2, e2', e3⟩ := main v hr
      have ei : vals i = v := by rw [e1 i (by omega)]; simp
      refine ⟨vals, fun j hj => by rw [e1 j (by omega), if_neg (by omega)], fun j o' h1 h2 ho hje => ?_, fun j o' h1 h2 ho hje => ?_, by simpa [Nat.add_assoc, Nat.add_comm 1] using e3⟩
      · by_cases hj : j = i
        · subst hj
          obtain rfl : o' = o := Option.some.inj (ho.symm.trans h0)
          rw [ef, ei]; exact hx
        · exact e2 j o' (by omega) (by simp only [List.length_cons] at h2; omega) ho hje
      · by_cases hj : j = i
        · subst hj; rw [hie] at hje; cases hje
        · exact e2' j o' (by omega) (by simp only [List.length_cons] at h2; omega) ho hje
/-- As noLookB, but x may look. -/
def noLookX (ops : Array Oper) (s n e x : Nat) : Bool :=
  (List.range n).all fun i => decide (i < s) || i == e || match ops[i]?, dstOf ops e with
    | some o, some d => (i == x || !(o.looksAt ops).contains d) && o.dst != some d
    | _, _ => false
theorem noLookX_spec {s n e x : Nat} {d : Tmp} (hN : noLookX ops s n e x = true) (hd : dstOf ops e = some d) : ∀ i o, s ≤ i → i < n → i ≠ e → ops[i]? = some o → (i ≠ x → d ∉ o.looksAt ops) ∧ o.dst ≠ some d := by
  intro i o h1 h2 h3 ho
  have := List.all_eq_true.1 hN i (List.mem_range.2 h2)
  simp only [ho, hd, Bool.or_eq_true, decide_eq_true_eq, beq_iff_eq, Bool.and_eq_true, Bool.not_eq_true', bne_iff_ne] at this
  rcases this with (h4 | h4) | h4
  · omega
  · exact absurd h4 h3
  · refine ⟨fun hx => ?_, h4.2⟩
    rcases h4.1 with h5 | h5
    · exact absurd h5 hx
    · simpa using h5
theorem last_x {s n e x : Nat} {d : Tmp} (hN : noLookX ops s n e x = true) (hd : dstOf ops e = some d) (hse : s ≤ e) : ∀ j, e < j → j < n → dstOf ops j ≠ some d := by
  intro j h1 h2 hdj
  obtain ⟨oj, hoj, hdj'⟩ := dst_spec0 hdj
  exact (noLookX_spec hN hd j oj (by omega) h2 (by omega) hoj).2 hdj'
theorem look_x {s n e x : Nat} {d : Tmp} (a : Act) (hN : noLookX ops s n e x = true) (hd : dstOf ops e = some d) (hse : s ≤ e) (v : Nat → Value) (g : Value) :
    ∀ i o, s ≤ i → i < n → i ≠ x → ops[i]? = some o → ∀ t ∈ o.looksAt ops, (fill ops (fun j => if j = e then g else v j) (fun _ => true) a i).tmps[t]? = (fill ops v (fun _ => true) a i).tmps[t]? := by
  intro i o h1 h2 hx ho t ht
  by_cases hei : e < i
  · have htd : t ≠ d := fun h => (noLookX_spec hN hd i o h1 h2 (by omega) ho).1 hx (h ▸ ht)
    rw [fill_ghost a hd i hei (fun j h4 h5 => last_x hN hd hse j h4 (by omega)), put_get _ _ _ _ (by simpa using fun h => htd h.symm)]
  · rw [fill_vals _ v _ a i (fun j hj => if_neg (by omega))]
def three (e1 e2 e3 : Nat) : Nat → Bool := fun j => j == e1 || j == e2 || j == e3
theorem mix_three (e1 e2 e3 : Nat) (us vals : Nat → Value) : mix (three e1 e2 e3) us vals = fun j => if j = e1 then us e1 else if j = e2 then us e2 else if j = e3 then us e3 else vals j := by
  funext j
  unfold mix three
  by_cases h1 : j = e1
  · subst h1; simp
  · by_cases h2 : j = e2
    · subst h2; simp [h1]
    · by_cases h3 : j = e3
      · subst h3; simp [h1, h2]
      · simp [h1, h2, h3]
/-- What is asked of the three. -/
def ask3 (P : Program) (ops : Array Oper) (W : World) (G : Nat → Value → World → Prop) (e1 e2 e3 : Nat) (d1 d2 : Tmp) : Nat → Oper → Act → Prop := fun i o a =>
  if i = e3 then ∀ u1 u2, Region.wanted o (yielded ops ((a.put (some d2) u2).put (some d1) u1).tmps) = true ∧ ∀ w, RowKit.Below W.heap.size W w → G e1 u1 w → G e2 u2 w → gives P o ((a.put (some d2) u2).put (some d1) u1) w fun u w' => RowKit.Below w.heap.size w w' ∧ G i u w'
  else Region.wanted o (yielded ops a.tmps) = true ∧ ∀ w, RowKit.Below W.heap.size W w → gives P o a w fun u w' => RowKit.Below w.heap.size w w' ∧ G i u w'
theorem at_three {s : Nat} {a : Act} {w : World} (n e1 e2 e3 : Nat) (d1 d2 d3 : Tmp) (G : Nat → Value → World → Prop) (hG : ∀ e v, Mono1 (G e v)) (hB : phS (Region.before ops) ops s n (fun _ => (0, 0, 0)) = true)
    (hN1 : noLookX ops s n e1 e3 = true) (hN2 : noLookX ops s n e2 e3 = true) (hN3 : noLookX ops s n e3 e3 = true) (hs1 : s ≤ e1) (hs2 : s ≤ e2) (h13 : e1 < e3) (h23 : e2 < e3) (hn3 : e3 < n)
    (hd1 : dstOf ops e1 = some d1) (hd2 : dstOf ops e2 = some d2) (hd3 : dstOf ops e3 = some d3) (ha1 : ((Region.before ops).getD e3 0).testBit e1 = true) (ha2 : ((Region.before ops).getD e3 0).testBit e2 = true)
    (h : wpC P ops w (three e1 e2 e3) (ask3 P ops w G e1 e2 e3 d1 d2) (fun a' => ∀ u1 u2 u3 w', RowKit.Below w.heap.size w w' → G e1 u1 w' → G e2 u2 w' → G e3 u3 w' → At P ops Q n (((a'.put (some d3) u3).put (some d2) u2).put (some d1) u1) w') s ((ops.toList.take n).drop s) a) : At P ops Q s a w := by
  intro listed hs hc hl
  have hB' := hB
  unfold phS at hB'
  simp only [Bool.and_eq_true, decide_eq_true_eq] at hB'
  have hn : n ≤ ops.size := hB'.1.1.1.1.1.2
  have hsel := hB'.1.1.1.1.1.1
  have hsn : s ≤ n := hB'.2
  have hlen : ((ops.toList.take n).drop s).length = n - s := by simp; omega
  obtain ⟨vals, x1, x2, x2', x3⟩ := vals_of_wpC (ops := ops) a ((ops.toList.take n).drop s) s a (stand ops a) (fun j hj => by
    rw [hlen] at hj
    rw [List.getElem?_drop, List.getElem?_take, if_pos (by omega)]; simp) (fill_stand a s).symm h
  rw [hlen, show s + (n - s) = n by omega] at x2 x2' x3
  have efs : fill ops vals (fun _ => true) a s = a := (fill_vals vals (stand ops a) _ a s x1).trans (fill_stand a s)
  have hmask : ∀ j, j < n → listed.getD j false = decide (j < s) := fun j hj => hl j (by omega)
  have hgets : ∀ us i o, s ≤ i → i < n → i ≠ e3 → ops[i]? = some o → ∀ t ∈ o.looksAt ops, (fill ops (mix (three e1 e2 e3) us vals) (fun _ => true) a i).tmps[t]? = (fill ops vals (fun _ => true) a i).tmps[t]? := by
    intro us i o h1 h2 hx ho t ht
    rw [mix_three, look_x a hN1 hd1 hs1 (fun j => if j = e2 then us e2 else if j = e3 then us e3 else vals j) (us e1) i o h1 h2 hx ho t ht,
      look_x a hN2 hd2 hs2 (fun j => if j = e3 then us e3 else vals j) (us e2) i o h1 h2 hx ho t ht]
    exact look_x a hN3 hd3 (by omega) vals (us e3) i o h1 h2 hx ho t ht
  have hat3 : ∀ us, fill ops (mix (three e1 e2 e3) us vals) (fun _ => true) a e3 = ((fill ops vals (fun _ => true) a e3).put (some d2) (us e2)).put (some d1) (us e1) := by
    intro us
    rw [mix_three, fill_ghost (vals := fun j => if j = e2 then us e2 else if j = e3 then us e3 else vals j) a hd1 e3 h13 (fun j h1 h2 => last_x hN1 hd1 hs1 j h1 (by omega)),
      fill_ghost (vals := fun j => if j = e3 then us e3 else vals j) a hd2 e3 h23 (fun j h1 h2 => last_x hN2 hd2 hs2 j h1 (by omega)),
      fill_vals (fun j => if j = e3 then us e3 else vals j) vals _ a e3 (fun j hj => if_neg (by omega))]
  have key := wpAny_many (P := P) (Q := Q) (ops := ops) (W0 := w) (three e1 e2 e3) G hG (s := s) (n := n) hB vals a
    (fun i o h1 h2 ho us => by
      by_cases hi3 : i = e3
      · subst hi3
        refine ⟨fun hE => ?_, fun hE => by simp [three] at hE⟩
        have hx := x2' i o h1 h2 ho hE
        unfold ask3 at hx
        rw [if_pos rfl] at hx
        obtain ⟨hw, hg⟩ := hx (us e1) (us e2)
        rw [hat3]
        exact ⟨hw, fun w1 hb hf => hg w1 hb (hf e1 hs1 (by omega) (by simp [three]) ha1) (hf e2 hs2 (by omega) (by simp [three]) ha2)⟩
      · have hsl := fun cs b => Region.noSelect_spec hsel i o cs b ho
        have hgt := hgets us i o h1 h2 hi3 ho
        rw [wanted_of_get o hgt]
        have hgv : ∀ w1 R, gives P o (fill ops vals (fun _ => true) a i) w1 R → gives P o (fill ops (mix (three e1 e2 e3) us vals) (fun _ => true) a i) w1 R := fun w1 R hh => by
          unfold gives at hh ⊢
          rw [execOp_of_get o hsl hgt]; exact hh
        refine ⟨fun hE => ?_, fun hE => ?_⟩
        · have hx := x2' i o h1 h2 ho hE
          unfold ask3 at hx
          rw [if_neg hi3] at hx
          exact ⟨hx.1, fun w1 hb _ => hgv w1 _ (hx.2 w1 hb)⟩
        · rcases x2 i o h1 h2 ho hE with ⟨hw, hg⟩ | hx
          · exact .inl ⟨hw, fun w1 hb => hgv w1 _ (hg w1 hb)⟩
          · exact .inr hx)
    (fun us w1 hb hgs => by
      rw [mix_three, fill_ghost (vals := fun j => if j = e2 then us e2 else if j = e3 then us e3 else vals j) a hd1 n (by omega) (last_x hN1 hd1 hs1),
        fill_ghost (vals := fun j => if j = e3 then us e3 else vals j) a hd2 n (by omega) (last_x hN2 hd2 hs2), fill_ghost a hd3 n hn3 (last_x hN3 hd3 (by omega))]
      exact x3 (us e1) (us e2) (us e3) w1 hb (hgs e1 hs1 (by omega) (by simp [three])) (hgs e2 hs2 (by omega) (by simp [three])) (hgs e3 (by omega) hn3 (by simp [three]))) (n - s) (fun _ => undef) listed w hs hc
    (fun t ht => by
      rcases Nat.lt_or_ge t ops.size with h' | h'
      · rw [hl t h']; simp; omega
      · simp [Array.getElem?_eq_none (show listed.size ≤ t by omega)])
    (fun t ht => by rw [hl t (by omega)]; simp [ht])
    (by
      have h2 : ∀ m, m ≤ n → (List.range m).countP (fun j => !listed.getD j false) = m - s := by
        intro m
        induction m with
        | zero => intro _; simp
        | succ m ih =>
          intro hm
          rw [List.range_succ, List.countP_append, ih (by omega)]
          simp only [List.countP_cons, List.countP_nil, hmask m (by omega)]
          by_cases hms : m < s
          · simp [hms]; omega
          · simp [hms]; omega
      exact h2 n (Nat.le_refl _))
    (RowKit.Below.refl _ _) (fun e h1 h2 h3 h4 => by rw [hmask e h2] at h4; simp at h4; omega)
  have ef : fill ops (mix (three e1 e2 e3) (fun _ => undef) vals) (fun j => listed.getD j false) a n = a := by
    rw [fill_congr (mix (three e1 e2 e3) (fun _ => undef) vals) (fun j => listed.getD j false) (fun j => decide (j < s)) a n hmask]
    have := fill_lt (ops := ops) (mix (three e1 e2 e3) (fun _ => undef) vals) a s (n - s)
    rw [show s + (n - s) = n by omega] at this
    rw [this, fill_vals _ vals _ a s (fun j hj => by rw [mix_three]; simp only; rw [if_neg (by omega), if_neg (by omega), if_neg (by omega)])]; exact efs
  rw [ef, show n - s + (ops.size - n) = ops.size - s by omega] at key
  exact key
theorem wpC_nil {W : World} {E : Nat → Bool} {C : Nat → Oper → Act → Prop} {L : Act → Prop} {i : Nat} {a : Act} (h : L a) : wpC P ops W E C L i [] a := h
theorem wpC_e {W : World} {E : Nat → Bool} {C : Nat → Oper → Act → Prop} {L : Act → Prop} {i : Nat} {a : Act} {o : Oper} {rest : List Oper} (hE : E i = true) (h : C i o a) (hr : wpC P ops W E C L (i + 1) rest a) : wpC P ops W E C L i (o :: rest) a :=
  .inl ⟨hE, h, hr⟩
theorem wpC_g {W : World} {E : Nat → Bool} {C : Nat → Oper → Act → Prop} {L : Act → Prop} {i : Nat} {a : Act} {o : Oper} {rest : List Oper} {v : Value} (hE : E i = false)
    (h : ∀ w, RowKit.Below W.heap.size W w → if Region.wanted o (yielded ops a.tmps) then givesV P o a w v (fun w' => RowKit.Below w.heap.size w w') else undef = v)
    (hr : wpC P ops W E C L (i + 1) rest (a.put o.dst v)) : wpC P ops W E C L i (o :: rest) a := by
  refine .inr ⟨hE, v, ?_, hr⟩
  by_cases hw : Region.wanted o (yielded ops a.tmps) = true
  · exact .inl ⟨hw, fun w1 hb => by have := h w1 hb; rw [if_pos hw] at this; exact givesV_gives this⟩
  · have := h W (RowKit.Below.refl _ _)
    rw [if_neg hw] at this
    exact .inr ⟨by simpa using hw, this.symm⟩

/-- Ghosts: operations and their slots. -/
def inG (gs : List (Nat × Tmp)) (i : Nat) : Bool := gs.any fun g => g.1 == i
def mixG (gs : List (Nat × Tmp)) (us vals : Nat → Value) : Nat → Value := fun j => if inG gs j then us j else vals j
def putG (us : Nat → Value) : Nat → List (Nat × Tmp) → Act → Act
  | _, [], a => a
  | m, g :: gs, a => if g.1 < m then (putG us m gs a).put (some g.2) (us g.1) else putG us m gs a
/-- Each ghost's slot is written by it alone; the others of the stage don't look at it. -/
def ghB (ops : Array Oper) (s n : Nat) (gs : List (Nat × Tmp)) : Bool :=
  gs.all fun g => decide (s ≤ g.1) && decide (g.1 < n) && dstOf ops g.1 == some g.2 &&
    (List.range n).all fun i => decide (i < s) || i == g.1 || match ops[i]? with
      | some o => (inG gs i || !(o.looksAt ops).contains g.2) && o.dst != some g.2
      | none => false
theorem ghB_spec {s n : Nat} {gs : List (Nat × Tmp)} (h : ghB ops s n gs = true) {g : Nat × Tmp} (hg : g ∈ gs) : s ≤ g.1 ∧ g.1 < n ∧ dstOf ops g.1 = some g.2 ∧
    ∀ i o, s ≤ i → i < n → i ≠ g.1 → ops[i]? = some o → (inG gs i = false → g.2 ∉ o.looksAt ops) ∧ o.dst ≠ some g.2 := by
  have h1 := List.all_eq_true.1 h g hg
  simp only [Bool.and_eq_true, decide_eq_true_eq, beq_iff_eq] at h1
  obtain ⟨⟨⟨h2, h3⟩, h4⟩, h5⟩ := h1
  refine ⟨h2, h3, h4, fun i o h6 h7 h8 ho => ?_⟩
  have h9 := List.all_eq_true.1 h5 i (List.mem_range.2 h7)
  simp only [ho, Bool.or_eq_true, decide_eq_true_eq, beq_iff_eq, Bool.and_eq_true, Bool.not_eq_true', bne_iff_ne] at h9
  rcases h9 with (h9 | h9) | h9
  · omega
  · exact absurd h9 h8
  · refine ⟨fun hx => ?_, h9.2⟩
    rcases h9.1 with h10 | h10
    · rw [hx] at h10; cases h10
    · simpa using h10
theorem mixG_cons (g : Nat × Tmp) (gs : List (Nat × Tmp)) (us vals : Nat → Value) : mixG (g :: gs) us vals = fun j => if j = g.1 then us g.1 else mixG gs us vals j := by
  funext j
  unfold mixG inG
  by_cases h : j = g.1
  · subst h; simp
  · have h' : (g.1 == j) = false := by simpa using fun e : g.1 = j => h e.symm
    rw [List.any_cons, if_neg h]
    show (if (g.1 == j || _) = true then _ else _) = _
    rw [h', Bool.false_or]
theorem fill_putG (us vals : Nat → Value) (a : Act) (m : Nat) : ∀ (gs : List (Nat × Tmp)), (∀ g ∈ gs, dstOf ops g.1 = some g.2 ∧ ∀ j, g.1 < j → j < m → dstOf ops j ≠ some g.2) →
    fill ops (mixG gs us vals) (fun _ => true) a m = putG us m gs (fill ops vals (fun _ => true) a m)
  | [], _ => by unfold putG; exact fill_vals _ vals _ a m (fun j _ => by simp [mixG, inG])
  | g :: gs, h => by
    have ih := fill_putG us vals a m gs (fun g' hg => h g' (List.mem_cons_of_mem _ hg))
    obtain ⟨h1, h2⟩ := h g (by simp)
    rw [mixG_cons]
    unfold putG
    by_cases hm : g.1 < m
    · rw [if_pos hm, fill_ghost (vals := mixG gs us vals) a h1 m hm h2, ih]
    · rw [if_neg hm, ← ih]
      exact fill_vals _ _ _ a m (fun j hj => if_neg (by omega))
theorem putG_get (us : Nat → Value) (m : Nat) (a : Act) (t : Tmp) : ∀ gs : List (Nat × Tmp), (∀ g ∈ gs, g.1 < m → g.2 ≠ t) → (putG us m gs a).tmps[t]? = a.tmps[t]?
  | [], _ => rfl
  | g :: gs, h => by
    have ih := putG_get us m a t gs (fun g' hg => h g' (List.mem_cons_of_mem _ hg))
    unfold putG
    split
    · rename_i hm
      rw [put_get _ _ _ _ (by simpa using h g (by simp) hm), ih]
    · exact ih
/-- What is asked of a ghost: it may look at ghosts that it waits for; of those, what is known of them is known in every world where it may stand. -/
def askG (P : Program) (ops : Array Oper) (W : World) (G : Nat → Value → World → Prop) (gs : List (Nat × Tmp)) : Nat → Oper → Act → Prop := fun i o a =>
  ∀ us, Region.wanted o (yielded ops (putG us i gs a).tmps) = true ∧ ∀ w, RowKit.Below W.heap.size W w → (∀ g ∈ gs, ((Region.before ops).getD i 0).testBit g.1 = true → G g.1 (us g.1) w) →
    gives P o (putG us i gs a) w fun u w' => RowKit.Below w.heap.size w w' ∧ G i u w'
theorem at_ghosts {s : Nat} {a : Act} {w : World} (n : Nat) (gs : List (Nat × Tmp)) (G : Nat → Value → World → Prop) (hG : ∀ e v, Mono1 (G e v)) (hB : phS (Region.before ops) ops s n (fun _ => (0, 0, 0)) = true)
    (hN : ghB ops s n gs = true)
    (h : wpC P ops w (inG gs) (askG P ops w G gs) (fun a' => ∀ us w', RowKit.Below w.heap.size w w' → (∀ g ∈ gs, G g.1 (us g.1) w') → At P ops Q n (putG us n gs a') w') s ((ops.toList.take n).drop s) a) : At P ops Q s a w := by
  intro listed hs hc hl
  have hB' := hB
  unfold phS at hB'
  simp only [Bool.and_eq_true, decide_eq_true_eq] at hB'
  have hn : n ≤ ops.size := hB'.1.1.1.1.1.2
  have hsel := hB'.1.1.1.1.1.1
  have hsn : s ≤ n := hB'.2
  have hlen : ((ops.toList.take n).drop s).length = n - s := by simp; omega
  obtain ⟨vals, x1, x2, x2', x3⟩ := vals_of_wpC (ops := ops) a ((ops.toList.take n).drop s) s a (stand ops a) (fun j hj => by
    rw [hlen] at hj
    rw [List.getElem?_drop, List.getElem?_take, if_pos (by omega)]; simp) (fill_stand a s).symm h
  rw [hlen, show s + (n - s) = n by omega] at x2 x2' x3
  have efs : fill ops vals (fun _ => true) a s = a := (fill_vals vals (stand ops a) _ a s x1).trans (fill_stand a s)
  have hmask : ∀ j, j < n → listed.getD j false = decide (j < s) := fun j hj => hl j (by omega)
  have hfp : ∀ us m, m ≤ n → fill ops (mix (inG gs) us vals) (fun _ => true) a m = putG us m gs (fill ops vals (fun _ => true) a m) := fun us m hm =>
    fill_putG us vals a m gs (fun g hg => by
      obtain ⟨h1, h2, h3, h4⟩ := ghB_spec hN hg
      refine ⟨h3, fun j h5 h6 hdj => ?_⟩
      obtain ⟨oj, hoj, hdj'⟩ := dst_spec0 hdj
      exact (h4 j oj (by omega) (by omega) (by omega) hoj).2 hdj')
  have hgets : ∀ us i o, s ≤ i → i < n → inG gs i = false → ops[i]? = some o → ∀ t ∈ o.looksAt ops, (fill ops (mix (inG gs) us vals) (fun _ => true) a i).tmps[t]? = (fill ops vals (fun _ => true) a i).tmps[t]? := by
    intro us i o h1 h2 hx ho t ht
    rw [hfp us i (by omega)]
    refine putG_get us i _ t gs (fun g hg hgi heq => ?_)
    obtain ⟨_, _, _, h4⟩ := ghB_spec hN hg
    exact (h4 i o h1 h2 (by omega) ho).1 hx (heq ▸ ht)
  have hin : ∀ g ∈ gs, inG gs g.1 = true := fun g hg => List.any_eq_true.2 ⟨g, hg, by simp⟩
  have key := wpAny_many (P := P) (Q := Q) (ops := ops) (W0 := w) (inG gs) G hG (s := s) (n := n) hB vals a
    (fun i o h1 h2 ho us => by
      refine ⟨fun hE => ?_, fun hE => ?_⟩
      · obtain ⟨hw, hg⟩ := x2' i o h1 h2 ho hE us
        rw [hfp us i (by omega)]
        refine ⟨hw, fun w1 hb hf => hg w1 hb (fun g hg' ha => ?_)⟩
        obtain ⟨h3, h4, _⟩ := ghB_spec hN hg'
        exact hf g.1 h3 h4 (hin g hg') ha
      · have hsl := fun cs b => Region.noSelect_spec hsel i o cs b ho
        have hgt := hgets us i o h1 h2 hE ho
        rw [wanted_of_get o hgt]
        rcases x2 i o h1 h2 ho hE with ⟨hw, hg⟩ | hx
        · refine .inl ⟨hw, fun w1 hb => ?_⟩
          have hh := hg w1 hb
          unfold gives at hh ⊢
          rw [execOp_of_get o hsl hgt]; exact hh
        · exact .inr hx)
    (fun us w1 hb hgs => by
      rw [hfp us n (Nat.le_refl _)]
      exact x3 us w1 hb (fun g hg => by
        obtain ⟨h3, h4, _⟩ := ghB_spec hN hg
        exact hgs g.1 h3 h4 (hin g hg))) (n - s) (fun _ => undef) listed w hs hc
    (fun t ht => by
      rcases Nat.lt_or_ge t ops.size with h' | h'
      · rw [hl t h']; simp; omega
      · simp [Array.getElem?_eq_none (show listed.size ≤ t by omega)])
    (fun t ht => by rw [hl t (by omega)]; simp [ht])
    (by
      have h2 : ∀ m, m ≤ n → (List.range m).countP (fun j => !listed.getD j false) = m - s := by
        intro m
        induction m with
        | zero => intro _; simp
        | succ m ih =>
          intro hm
          rw [List.range_succ, List.countP_append, ih (by omega)]
          simp only [List.countP_cons, List.countP_nil, hmask m (by omega)]
          by_cases hms : m < s
          · simp [hms]; omega
          · simp [hms]; omega
      exact h2 n (Nat.le_refl _))
    (RowKit.Below.refl _ _) (fun e h1 h2 h3 h4 => by rw [hmask e h2] at h4; simp at h4; omega)
  have ef : fill ops (mix (inG gs) (fun _ => undef) vals) (fun j => listed.getD j false) a n = a := by
    rw [fill_congr (mix (inG gs) (fun _ => undef) vals) (fun j => listed.getD j false) (fun j => decide (j < s)) a n hmask]
    have := fill_lt (ops := ops) (mix (inG gs) (fun _ => undef) vals) a s (n - s)
    rw [show s + (n - s) = n by omega] at this
    rw [this, fill_vals _ vals _ a s (fun j hj => by
      unfold mix
      rw [if_neg]
      intro hx
      obtain ⟨g, hg, hgj⟩ := List.any_eq_true.1 hx
      obtain ⟨h3, _⟩ := ghB_spec hN hg
      simp only [beq_iff_eq] at hgj
      omega)]
    exact efs
  rw [ef, show n - s + (ops.size - n) = ops.size - s by omega] at key
  exact key
theorem wpAny_J {W0 : World} (E : Nat → Bool) (J : (Nat → Bool) → (Nat → Value) → World → Prop) (hJ : ∀ d us, Mono1 (J d us)) (hJd : ∀ d d' us w, (∀ e, E e = true → d e = d' e) → J d us w → J d' us w) {s n : Nat} (hB : phS (Region.before ops) ops s n (fun _ => (0, 0, 0)) = true)
    (vals : Nat → Value) (a0 : Act)
    (hok : ∀ i o, s ≤ i → i < n → ops[i]? = some o → ∀ us, (E i = true → Region.wanted o (yielded ops (fill ops (mix E us vals) (fun _ => true) a0 i).tmps) = true ∧
        ∀ d w, RowKit.Below W0.heap.size W0 w → d i = false → (∀ e, ((Region.before ops).getD i 0).testBit e = true → d e = true) → J d us w → gives P o (fill ops (mix E us vals) (fun _ => true) a0 i) w fun u w' => RowKit.Below W0.heap.size w w' ∧ J (fun e => if e = i then true else d e) (fun j => if j = i then u else us j) w') ∧
      (E i = false → (Region.wanted o (yielded ops (fill ops (mix E us vals) (fun _ => true) a0 i).tmps) = true ∧
        ∀ w, RowKit.Below W0.heap.size W0 w → gives P o (fill ops (mix E us vals) (fun _ => true) a0 i) w fun u w' => u = vals i ∧ RowKit.Below w.heap.size w w') ∨
        (Region.wanted o (yielded ops (fill ops (mix E us vals) (fun _ => true) a0 i).tmps) = false ∧ vals i = undef)))
    (htail : ∀ us w, RowKit.Below W0.heap.size W0 w → J (fun e => decide (e < n)) us w → At P ops Q n (fill ops (mix E us vals) (fun _ => true) a0 n) w) :
    ∀ (c : Nat) (us : Nat → Value) (listed : Array Bool) (w : World), listed.size = ops.size → Closed ops listed → (∀ t, n ≤ t → listed.getD t false = false) → (∀ t, t < s → listed.getD t false = true) →
      (List.range n).countP (fun j => !listed.getD j false) = c → RowKit.Below W0.heap.size W0 w → J (fun e => listed.getD e false) us w →
      wpAny P .any ops Q (c + (ops.size - n)) listed (fill ops (mix E us vals) (fun j => listed.getD j false) a0 n) w := by
  have hB0 := hB
  unfold phS at hB
  simp only [Bool.and_eq_true, decide_eq_true_eq] at hB
  obtain ⟨⟨⟨⟨⟨⟨hsel, hn⟩, hE⟩, hT⟩, hM⟩, hP⟩, _⟩ := hB
  intro c
  induction c with
  | zero =>
    intro us listed w hs hc htl hlo hcount hS hgs
    have hall : ∀ j, j < n → listed.getD j false = true := fun j hj => by
      have := (List.countP_eq_zero.1 hcount) j (List.mem_range.2 hj)
      simpa using this
    rw [fill_congr (mix E us vals) (fun j => listed.getD j false) (fun _ => true) a0 n hall, Nat.zero_add]
    exact htail us w hS (hJd _ _ us w (fun e _ => by
      rcases Nat.lt_or_ge e n with h' | h'
      · rw [hall e h']; simp [h']
      · rw [htl e h']; simp; omega) hgs) listed hs hc (fun j hj => by
      rcases Nat.lt_or_ge j n with h' | h'
      · rw [hall j h']; simp [h']
      · rw [htl j h']; simp; omega)
  | succ c ih =>
    intro us listed w hs hc htl hlo hcount hS hgs
    -- somebody of the head is not listed
    have hex : ∃ i, i < n ∧ listed.getD i false = false := by
      have : 0 < (List.range n).countP (fun j => !listed.getD j false) := by omega
      obtain ⟨i, hi, hp⟩ := List.countP_pos_iff.1 this
      exact ⟨i, List.mem_range.1 hi, by simpa using hp⟩
    have hhead : ∀ i ∈ Region.ready .any ops listed, i < n := by
      intro i hi
      rcases Nat.lt_or_ge i n with h | h
      · exact h
      · obtain ⟨hun, oi, hoi, _⟩ := mem_ready.1 hi
        have li := (Array.getElem?_eq_some_iff.1 hoi).1
        have h2 := List.all_eq_true.1 hT i (List.mem_range.2 li)
        rcases or_t h2 with h3 | h3
        · have := of_decide_eq_true h3; omega
        · obtain ⟨j, hj, hjf⟩ := hex
          have h4 := anc_ready hc hi j (List.all_eq_true.1 h3 j (List.mem_range.2 hj))
          rw [hjf] at h4; cases h4
    have hne : Region.ready .any ops listed ≠ [] := by
      -- the least one that is not listed
      have : ∀ d i, i = d → i < n → listed.getD i false = false → Region.ready .any ops listed ≠ [] := by
        intro d
        induction d using Nat.strongRecOn with
        | _ d ihd =>
          intro i hid hin hif
          have li : i < ops.size := by omega
          by_cases hr : i ∈ Region.ready .any ops listed
          · intro h; rw [h] at hr; cases hr
          · have hox : ops[i]? = some ops[i] := by simp [li]
            have : ∃ e ∈ ops[i].after, Region.binds .any e = true ∧ listed.getD e.on false = false := by
              refine Classical.byContradiction fun hno => hr (mem_ready.2 ⟨by rw [getD_ft (by omega)]; exact hif, _, hox, fun e he hb => ?_⟩)
              cases hx : listed.getD e.on false with
              | true => rfl
              | false => exact absurd ⟨e, he, hb, hx⟩ hno
            obtain ⟨e, he, hb, hx⟩ := this
            have h1 := List.all_eq_true.1 hE i (List.mem_range.2 li)
            simp only [hox] at h1
            have h2 := Array.all_eq_true_iff_forall_mem.1 h1 e he
            simp only [hb, Bool.not_true, Bool.false_or, decide_eq_true_eq] at h2
            exact ihd e.on (by omega) e.on rfl (by omega) hx
      obtain ⟨i, hi, hif⟩ := hex
      exact this i i rfl hi hif
    rw [show c + 1 + (ops.size - n) = (c + (ops.size - n)) + 1 by omega]
    refine ⟨fun h => absurd h hne, fun i hi => ?_⟩
    have hin := hhead i hi
    obtain ⟨hun, oi, hoi, hall⟩ := mem_ready.1 hi
    have li := (Array.getElem?_eq_some_iff.1 hoi).1
    have hif : listed.getD i false = false := by rw [← getD_ft (by omega)]; exact hun
    -- a listed one does not have i ahead of it
    have hno : ∀ j, listed.getD j false = true → anc ops j i = true → False := fun j hj h => by
      have := anc_listed hc j hj i h; rw [hif] at this; cases this
    have hdst : ∀ j t, dstOf ops j = some t → ∃ oj, ops[j]? = some oj ∧ oj.dst = some t := fun j t h => by
      unfold dstOf at h
      cases hj : ops[j]? with
      | none => rw [hj] at h; cases h
      | some oj => rw [hj] at h; exact ⟨oj, rfl, h⟩
    have hget : ∀ t ∈ oi.looksAt ops, (fill ops (mix E us vals) (fun j => listed.getD j false) a0 n).tmps[t]? = (fill ops (mix E us vals) (fun _ => true) a0 i).tmps[t]? := by
      intro t ht
      have key : ∀ j, j < n → dstOf ops j = some t → listed.getD j false = decide (j < i) := by
        intro j hj hd
        obtain ⟨oj, hoj, hdj⟩ := hdst j t hd
        rcases Nat.lt_trichotomy j i with h1 | h1 | h1
        · have := tempsB_spec hM hoi hoj (by omega) hdj (.inl ht)
          rw [show max i j = i by omega, show min i j = j by omega] at this
          rw [anc_ready hc hi j this]; simp [h1]
        · subst h1; rw [hif]; simp
        · have := tempsB_spec hM hoi hoj (by omega) hdj (.inl ht)
          rw [show max i j = j by omega, show min i j = i by omega] at this
          cases hl : listed.getD j false with
          | true => exact (hno j hl this).elim
          | false => simp; omega
      have e1 := fill_get (ops := ops) (mix E us vals) (fun j => listed.getD j false) (fun j => decide (j < i)) a0 t n key
      rw [e1]
      rw [show n = i + (n - i) by omega, fill_lt _ a0 i (n - i)]
    have hcount' : (List.range n).countP (fun j => !(listed.setIfInBounds i true).getD j false) = c := by
      have h1 := countP_set (fun _ => true) (fun j => listed.getD j false) i hif n hin
      have h2 : ∀ p : Nat → Bool, (List.range n).countP (fun j => !p j) + (List.range n).countP p = n := fun p => by
        have := List.length_eq_countP_add_countP (p := p) (l := List.range n)
        simp only [List.length_range] at this
        have h3 : (List.range n).countP (fun j => !p j) = (List.range n).countP (fun a => decide ¬p a = true) := List.countP_congr fun x _ => by simp
        omega
      have h4 := h2 (fun j => listed.getD j false)
      have h5 := h2 (fun j => (listed.setIfInBounds i true).getD j false)
      have h6 : (List.range n).countP (fun j => (listed.setIfInBounds i true).getD j false) = (List.range n).countP (fun j => if j = i then true else listed.getD j false) :=
        List.countP_congr fun x _ => by rw [getD_set_i (by omega)]
      simp only [Bool.true_and, if_true] at h1
      omega
    have hclosed' := closed_set hs hc hi
    have htl' : ∀ t, n ≤ t → (listed.setIfInBounds i true).getD t false = false := fun t ht => by
      rw [getD_set_ne false (by omega)]; exact htl t ht
    have hsi : s ≤ i := by
      rcases Nat.lt_or_ge i s with h | h
      · rw [hlo i h] at hif; cases hif
      · exact h
    have hlo' : ∀ t, t < s → (listed.setIfInBounds i true).getD t false = true := fun t ht => by
      rw [getD_set_ne false (by omega)]; exact hlo t ht
    have hsl := fun cs b => Region.noSelect_spec hsel i oi cs b hoi
    unfold wpOp
    simp only [hoi]
    rw [wanted_of_get oi hget]
    -- what is put is what is filled
    have hputg : ∀ (us' : Nat → Value) (u : Value), mix E us' vals i = u → (∀ j, j ≠ i → us' j = us j) → (fill ops (mix E us vals) (fun j => listed.getD j false) a0 n).put oi.dst u = fill ops (mix E us' vals) (fun j => (listed.setIfInBounds i true).getD j false) a0 n := by
      intro us' u hu hus
      have hd : oi.dst = dstOf ops i := by simp [dstOf, hoi]
      have e0 : fill ops (mix E us vals) (fun j => listed.getD j false) a0 n = fill ops (mix E us' vals) (fun j => listed.getD j false) a0 n := fill_vals_L _ _ _ a0 n (fun j _ hl => by
        by_cases hji : j = i
        · subst hji; rw [hif] at hl; cases hl
        · unfold mix; rw [hus j hji])
      rw [e0, hd]
      have h3 := fill_put (mix E us' vals) (fun j => listed.getD j false) a0 i hif (fun j hij hl d hdi hdj => by
        obtain ⟨oj, hoj, hdj'⟩ := hdst j d hdj
        have := tempsB_spec hM hoi hoj (by omega) hdj' (.inr (by rw [hd]; exact hdi))
        rw [show max i j = j by omega, show min i j = i by omega] at this
        exact hno j hl this) n hin
      rw [hu] at h3
      rw [h3]
      exact fill_congr _ _ _ a0 n (fun j _ => by rw [getD_set_i (by omega)])
    obtain ⟨hx1, hx2⟩ := hok i oi hsi hin hoi us
    cases hei : E i with
    | true =>
      obtain ⟨hw, hg⟩ := hx1 hei
      rw [if_pos hw]
      left
      refine gives_wp (R := fun u w' => RowKit.Below W0.heap.size w w' ∧ J (fun e => if e = i then true else listed.getD e false) (fun j => if j = i then u else us j) w') ?_ (fun v w' ⟨h1, h2⟩ => ?_)
      · unfold gives
        rw [execOp_of_get oi hsl hget]
        exact hg (fun e => listed.getD e false) w hS hif (fun e h4 => anc_ready hc hi e h4) hgs
      · rw [hputg (fun j => if j = i then v else us j) v (by unfold mix; simp [hei]) (fun j hj => if_neg hj)]
        refine ih _ (listed.setIfInBounds i true) w' (by simpa using hs) hclosed' htl' hlo' hcount' (hS.trans h1) (hJd _ _ _ _ (fun e _ => by rw [getD_set_i (by omega)]) h2)
    | false =>
      have hfin : ∀ w', RowKit.Below w.heap.size w w' → wpAny P .any ops Q (c + (ops.size - n)) (listed.setIfInBounds i true) ((fill ops (mix E us vals) (fun j => listed.getD j false) a0 n).put oi.dst (vals i)) w' := fun w' h1 => by
        rw [hputg us (vals i) (by unfold mix; simp [hei]) (fun _ _ => rfl)]
        refine ih _ (listed.setIfInBounds i true) w' (by simpa using hs) hclosed' htl' hlo' hcount' (hS.trans (h1.mono hS.size)) (hJd _ _ _ _ (fun e he => by rw [getD_set_ne false (fun h => by rw [← h, hei] at he; cases he)]) (hJ _ _ _ _ hgs h1))
      rcases hx2 hei with ⟨hw, hg⟩ | ⟨hw, hv⟩
      · rw [if_pos hw]
        left
        refine gives_wp (R := fun u w' => u = vals i ∧ RowKit.Below w.heap.size w w') ?_ (fun v w' ⟨h1, h2⟩ => by subst h1; exact hfin w' h2)
        unfold gives
        rw [execOp_of_get oi hsl hget]
        exact hg w hS
      · rw [if_neg (by rw [hw]; simp)]
        have := hfin w (RowKit.Below.refl _ _)
        rw [hv] at this
        exact this

def doneB (d : Nat → Bool) (i : Nat) : Nat → Bool := fun e => if e = i then true else d e
def nowV (us : Nat → Value) (i : Nat) (u : Value) : Nat → Value := fun j => if j = i then u else us j
/-- What is asked of a ghost: behind it, what was known of those that are done, and of itself. -/
def askJ (P : Program) (ops : Array Oper) (W : World) (J : (Nat → Bool) → (Nat → Value) → World → Prop) (gs : List (Nat × Tmp)) : Nat → Oper → Act → Prop := fun i o a =>
  ∀ us, Region.wanted o (yielded ops (putG us i gs a).tmps) = true ∧ ∀ d w, RowKit.Below W.heap.size W w → d i = false → (∀ e, ((Region.before ops).getD i 0).testBit e = true → d e = true) → J d us w →
    gives P o (putG us i gs a) w fun u w' => RowKit.Below W.heap.size w w' ∧ J (doneB d i) (nowV us i u) w'
theorem at_J {s : Nat} {a : Act} {w : World} (n : Nat) (gs : List (Nat × Tmp)) (J : (Nat → Bool) → (Nat → Value) → World → Prop) (hJ : ∀ d us, Mono1 (J d us)) (hJd : ∀ d d' us w, (∀ e, inG gs e = true → d e = d' e) → J d us w → J d' us w) (hB : phS (Region.before ops) ops s n (fun _ => (0, 0, 0)) = true)
    (hN : ghB ops s n gs = true) (h0 : ∀ us, J (fun _ => false) us w)
    (h : wpC P ops w (inG gs) (askJ P ops w J gs) (fun a' => ∀ us w', RowKit.Below w.heap.size w w' → J (fun e => decide (e < n)) us w' → At P ops Q n (putG us n gs a') w') s ((ops.toList.take n).drop s) a) : At P ops Q s a w := by
  intro listed hs hc hl
  have hB' := hB
  unfold phS at hB'
  simp only [Bool.and_eq_true, decide_eq_true_eq] at hB'
  have hn : n ≤ ops.size := hB'.1.1.1.1.1.2
  have hsel := hB'.1.1.1.1.1.1
  have hsn : s ≤ n := hB'.2
  have hlen : ((ops.toList.take n).drop s).length = n - s := by simp; omega
  obtain ⟨vals, x1, x2, x2', x3⟩ := vals_of_wpC (ops := ops) a ((ops.toList.take n).drop s) s a (stand ops a) (fun j hj => by
    rw [hlen] at hj
    rw [List.getElem?_drop, List.getElem?_take, if_pos (by omega)]; simp) (fill_stand a s).symm h
  rw [hlen, show s + (n - s) = n by omega] at x2 x2' x3
  have efs : fill ops vals (fun _ => true) a s = a := (fill_vals vals (stand ops a) _ a s x1).trans (fill_stand a s)
  have hmask : ∀ j, j < n → listed.getD j false = decide (j < s) := fun j hj => hl j (by omega)
  have hfp : ∀ us m, m ≤ n → fill ops (mix (inG gs) us vals) (fun _ => true) a m = putG us m gs (fill ops vals (fun _ => true) a m) := fun us m hm =>
    fill_putG us vals a m gs (fun g hg => by
      obtain ⟨h1, h2, h3, h4⟩ := ghB_spec hN hg
      refine ⟨h3, fun j h5 h6 hdj => ?_⟩
      obtain ⟨oj, hoj, hdj'⟩ := dst_spec0 hdj
      exact (h4 j oj (by omega) (by omega) (by omega) hoj).2 hdj')
  have hgets : ∀ us i o, s ≤ i → i < n → inG gs i = false → ops[i]? = some o → ∀ t ∈ o.looksAt ops, (fill ops (mix (inG gs) us vals) (fun _ => true) a i).tmps[t]? = (fill ops vals (fun _ => true) a i).tmps[t]? := by
    intro us i o h1 h2 hx ho t ht
    rw [hfp us i (by omega)]
    refine putG_get us i _ t gs (fun g hg hgi heq => ?_)
    obtain ⟨_, _, _, h4⟩ := ghB_spec hN hg
    exact (h4 i o h1 h2 (by omega) ho).1 hx (heq ▸ ht)
  have hin : ∀ g ∈ gs, inG gs g.1 = true := fun g hg => List.any_eq_true.2 ⟨g, hg, by simp⟩
  have key := wpAny_J (P := P) (Q := Q) (ops := ops) (W0 := w) (inG gs) J hJ hJd (s := s) (n := n) hB vals a
    (fun i o h1 h2 ho us => by
      refine ⟨fun hE => ?_, fun hE => ?_⟩
      · obtain ⟨hw, hg⟩ := x2' i o h1 h2 ho hE us
        rw [hfp us i (by omega)]
        exact ⟨hw, hg⟩
      · have hsl := fun cs b => Region.noSelect_spec hsel i o cs b ho
        have hgt := hgets us i o h1 h2 hE ho
        rw [wanted_of_get o hgt]
        rcases x2 i o h1 h2 ho hE with ⟨hw, hg⟩ | hx
        · refine .inl ⟨hw, fun w1 hb => ?_⟩
          have hh := hg w1 hb
          unfold gives at hh ⊢
          rw [execOp_of_get o hsl hgt]; exact hh
        · exact .inr hx)
    (fun us w1 hb hgs => by
      rw [hfp us n (Nat.le_refl _)]
      exact x3 us w1 hb hgs) (n - s) (fun _ => undef) listed w hs hc
    (fun t ht => by
      rcases Nat.lt_or_ge t ops.size with h' | h'
      · rw [hl t h']; simp; omega
      · simp [Array.getElem?_eq_none (show listed.size ≤ t by omega)])
    (fun t ht => by rw [hl t (by omega)]; simp [ht])
    (by
      have h2 : ∀ m, m ≤ n → (List.range m).countP (fun j => !listed.getD j false) = m - s := by
        intro m
        induction m with
        | zero => intro _; simp
        | succ m ih =>
          intro hm
          rw [List.range_succ, List.countP_append, ih (by omega)]
          simp only [List.countP_cons, List.countP_nil, hmask m (by omega)]
          by_cases hms : m < s
          · simp [hms]; omega
          · simp [hms]; omega
      exact h2 n (Nat.le_refl _))
    (RowKit.Below.refl _ _) (hJd _ _ _ _ (fun e he => by
      obtain ⟨g, hg, hgj⟩ := List.any_eq_true.1 he
      obtain ⟨h3, h4, _⟩ := ghB_spec hN hg
      simp only [beq_iff_eq] at hgj
      rw [hmask e (by omega)]; simp; omega) (h0 _))
  have ef : fill ops (mix (inG gs) (fun _ => undef) vals) (fun j => listed.getD j false) a n = a := by
    rw [fill_congr (mix (inG gs) (fun _ => undef) vals) (fun j => listed.getD j false) (fun j => decide (j < s)) a n hmask]
    have := fill_lt (ops := ops) (mix (inG gs) (fun _ => undef) vals) a s (n - s)
    rw [show s + (n - s) = n by omega] at this
    rw [this, fill_vals _ vals _ a s (fun j hj => by
      unfold mix
      rw [if_neg]
      intro hx
      obtain ⟨g, hg, hgj⟩ := List.any_eq_true.1 hx
      obtain ⟨h3, _⟩ := ghB_spec hN hg
      simp only [beq_iff_eq] at hgj
      omega)]
    exact efs
  rw [ef, show n - s + (ops.size - n) = ops.size - s by omega] at key
  exact key
end
end Go.Ph
