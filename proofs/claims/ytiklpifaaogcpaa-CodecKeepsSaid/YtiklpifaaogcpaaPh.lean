/- Laws for a region that draws its order: it may be walked in the order of its text. No condition but what each theorem asks. -/
import Derived.Orders
import Derived.Tactics
import Derived.StillTactics
import Derived.Below
namespace Go.Ph
open Go

/-- What operation o comes to in world w: its value and the world behind it meet R. -/
def givesUpon (P : Program) (R : Value → World → Prop) : Result Next → Prop
  | .ok (.value v) w' => R v w'
  | .ok .skip w' => R undef w'
  | .ok (.enter f args) w' => Calls P f args w' fun e w'' => ∃ v, e = .returned v ∧ R v w''
  | _ => False
def gives (P : Program) (o : Oper) (a : Act) (w : World) (R : Value → World → Prop) : Prop := givesUpon P R ((execOp a.eval o).run P w)

/-- Operation o, in state a: at every phase from lo to hi, in every world of that phase, it yields v, and the world behind it is of the phase behind it. -/
def OpOk (P : Program) (ops : Array Oper) (S : Nat → World → Prop) (o : Oper) (a : Act) (v : Value) (ph : Nat × Nat × Nat) : Prop :=
  (Region.wanted o (yielded ops a.tmps) = true ∧ ∀ k, ph.1 ≤ k → k ≤ ph.2.1 → ∀ w, S k w → gives P o a w fun u w' => u = v ∧ S (k + ph.2.2) w') ∨
  (Region.wanted o (yielded ops a.tmps) = false ∧ v = undef ∧ ph.2.2 = 0)

def wpPh (P : Program) (ops : Array Oper) (S : Nat → World → Prop) (ph : Nat → Nat × Nat × Nat) (L : Act → Prop) : Nat → List Oper → Act → Prop
  | _, [], a => L a
  | i, o :: rest, a => ∃ v, OpOk P ops S o a v (ph i) ∧ wpPh P ops S ph L (i + 1) rest (a.put o.dst v)

section
variable {P : Program} {ops : Array Oper} {Q : Exit → Act → World → Prop}

def anc (ops : Array Oper) (i j : Nat) : Bool := ((Region.before ops).getD i 0).testBit j

theorem fold_bits (acc : Array Nat) (es : List Edge) (j : Nat) : ∀ s : Nat,
    (es.foldl (fun s e => if Region.binds .any e then s ||| 2 ^ e.on ||| acc.getD e.on 0 else s) s).testBit j = true →
    s.testBit j = true ∨ ∃ e ∈ es, Region.binds .any e = true ∧ (e.on = j ∨ (acc.getD e.on 0).testBit j = true) := by
  induction es with
  | nil => intro s h; exact .inl h
  | cons e es ih =>
    intro s h
    simp only [List.foldl_cons] at h
    rcases ih _ h with h1 | ⟨e', he', h2⟩
    · by_cases hb : Region.binds .any e = true
      · simp only [hb, if_true, Nat.testBit_or, Bool.or_eq_true] at h1
        rcases h1 with (h1 | h1) | h1
        · exact .inl h1
        · refine .inr ⟨e, by simp, hb, .inl ?_⟩
          simpa [Nat.testBit_two_pow] using h1
        · exact .inr ⟨e, by simp, hb, .inr h1⟩
      · simp only [hb] at h1
        exact .inl (by simpa using h1)
    · exact .inr ⟨e', List.mem_cons_of_mem _ he', h2⟩

theorem before_spec (ops : Array Oper) : (Region.before ops).size = ops.size ∧ ∀ i j, anc ops i j = true →
    ∃ o, ops[i]? = some o ∧ ∃ e ∈ o.after, Region.binds .any e = true ∧ (e.on = j ∨ (e.on < i ∧ anc ops e.on j = true)) := by
  have H : (fun (m : Nat) (acc : Array Nat) => acc.size = m ∧ ∀ i j, i < m → (acc.getD i 0).testBit j = true →
      ∃ o, ops[i]? = some o ∧ ∃ e ∈ o.after, Region.binds .any e = true ∧ (e.on = j ∨ (e.on < i ∧ (acc.getD e.on 0).testBit j = true))) ops.size (Region.before ops) := by
    unfold Region.before
    refine Array.foldl_induction (motive := fun (m : Nat) (acc : Array Nat) => acc.size = m ∧ ∀ i j, i < m → (acc.getD i 0).testBit j = true →
      ∃ o, ops[i]? = some o ∧ ∃ e ∈ o.after, Region.binds .any e = true ∧ (e.on = j ∨ (e.on < i ∧ (acc.getD e.on 0).testBit j = true))) ⟨rfl, fun i j h => absurd h (Nat.not_lt_zero _)⟩ ?_
    intro i acc ⟨hs, hh⟩
    refine ⟨by simp [hs], fun k j hk hb => ?_⟩
    by_cases hki : k = i.val
    · subst hki
      have e1 : (acc.push (ops[i].after.foldl (fun s e => if Region.binds .any e then s ||| 2 ^ e.on ||| acc.getD e.on 0 else s) 0)).getD i.val 0 = ops[i].after.foldl (fun s e => if Region.binds .any e then s ||| 2 ^ e.on ||| acc.getD e.on 0 else s) 0 := by
        have h0 : ∀ (x m : Nat), acc.size = m → (acc.push x).getD m 0 = x := fun x m h => by subst h; simp
        exact h0 _ _ hs
      rw [e1, ← Array.foldl_toList] at hb
      rcases fold_bits acc _ j 0 hb with h0 | ⟨e, he, hbd, h2⟩
      · simp at h0
      · refine ⟨ops[i], by simp, e, by simpa using he, hbd, ?_⟩
        rcases h2 with h2 | h2
        · exact .inl h2
        · refine .inr ?_
          have hlt : e.on < acc.size := by
            rcases Nat.lt_or_ge e.on acc.size with h | h
            · exact h
            · simp [Array.getElem?_eq_none h] at h2
          refine ⟨by omega, ?_⟩
          have : e.on ≠ acc.size := by omega
          simpa [Array.getElem?_push, this] using h2
    · have hlt : k < i.val := by omega
      have e1 : ∀ m, m < acc.size → ∀ x, (acc.push x).getD m 0 = acc.getD m 0 := fun m hm x => by
        have : m ≠ acc.size := by omega
        simp [Array.getElem?_push, this]
      rw [e1 k (by omega)] at hb
      obtain ⟨o, ho, e, he, hbd, h2⟩ := hh k j hlt hb
      refine ⟨o, ho, e, he, hbd, ?_⟩
      rcases h2 with h2 | ⟨h2, h3⟩
      · exact .inl h2
      · exact .inr ⟨h2, by rw [e1 _ (by omega)]; exact h3⟩
  refine ⟨H.1, fun i j h => ?_⟩
  have hlt : i < ops.size := by
    rcases Nat.lt_or_ge i ops.size with h' | h'
    · exact h'
    · unfold anc at h
      rw [← H.1] at h'
      simp [Array.getElem?_eq_none h'] at h
  exact H.2 i j hlt h

/-- Whatever is listed has all that it waits for listed. -/
def Closed (ops : Array Oper) (listed : Array Bool) : Prop :=
  ∀ j oj, ops[j]? = some oj → listed.getD j false = true → ∀ e ∈ oj.after, Region.binds .any e = true → listed.getD e.on false = true

theorem anc_listed {listed : Array Bool} (hc : Closed ops listed) : ∀ i, listed.getD i false = true → ∀ j, anc ops i j = true → listed.getD j false = true := by
  intro i
  induction i using Nat.strongRecOn with
  | _ i ih =>
    intro hi j hj
    obtain ⟨o, ho, e, he, hb, h⟩ := (before_spec ops).2 i j hj
    have h1 := hc i o ho hi e he hb
    rcases h with h | ⟨h, h'⟩
    · rw [← h]; exact h1
    · exact ih e.on h h1 j h'
theorem anc_ready {listed : Array Bool} (hc : Closed ops listed) {i : Nat} (hi : i ∈ Region.ready .any ops listed) (j : Nat) (hj : anc ops i j = true) : listed.getD j false = true := by
  obtain ⟨_, o, ho, hall⟩ := mem_ready.1 hi
  obtain ⟨o', ho', e, he, hb, h⟩ := (before_spec ops).2 i j hj
  obtain rfl : o' = o := Option.some.inj (ho'.symm.trans ho)
  have h1 := hall e he hb
  rcases h with h | ⟨_, h'⟩
  · rw [← h]; exact h1
  · exact anc_listed hc e.on h1 j h'

/-! ### The state of a region, by what is listed -/
def dstOf (ops : Array Oper) (i : Nat) : Option Tmp := (ops[i]?).bind (·.dst)
/-- The values of those of the first m operations that are listed, laid into a. -/
def fill (ops : Array Oper) (vals : Nat → Value) (L : Nat → Bool) (a : Act) : Nat → Act
  | 0 => a
  | m + 1 => if L m then (fill ops vals L a m).put (dstOf ops m) (vals m) else fill ops vals L a m

theorem put_get (a : Act) (d : Option Tmp) (v : Value) (t : Tmp) (h : d ≠ some t) : (a.put d v).tmps[t]? = a.tmps[t]? := by
  cases d with
  | none => rfl
  | some d => exact Array.getElem?_setIfInBounds_ne (fun e => h (by rw [e]))
theorem put_get_same (a a' : Act) (d : Option Tmp) (v : Value) (t : Tmp) (hs : a.tmps.size = a'.tmps.size) (h : d = some t) : (a.put d v).tmps[t]? = (a'.put d v).tmps[t]? := by
  subst h
  simp only [Act.put, Array.getElem?_setIfInBounds_self, hs]
theorem put_size (a : Act) (d : Option Tmp) (v : Value) : (a.put d v).tmps.size = a.tmps.size := by
  cases d <;> simp [Act.put]
theorem put_defers (a : Act) (d : Option Tmp) (v : Value) : (a.put d v).defers = a.defers := by
  cases d <;> rfl
theorem fill_size (vals : Nat → Value) (L : Nat → Bool) (a : Act) : ∀ m, (fill ops vals L a m).tmps.size = a.tmps.size
  | 0 => rfl
  | m + 1 => by unfold fill; split <;> simp [put_size, fill_size vals L a m]
theorem fill_defers (vals : Nat → Value) (L : Nat → Bool) (a : Act) : ∀ m, (fill ops vals L a m).defers = a.defers
  | 0 => rfl
  | m + 1 => by unfold fill; split <;> simp [put_defers, fill_defers vals L a m]

/-- What temporary t holds hangs on which of its writers are listed. -/
theorem fill_get (vals : Nat → Value) (L L' : Nat → Bool) (a : Act) (t : Tmp) : ∀ m, (∀ j, j < m → dstOf ops j = some t → L j = L' j) →
    (fill ops vals L a m).tmps[t]? = (fill ops vals L' a m).tmps[t]?
  | 0, _ => rfl
  | m + 1, h => by
    have ih := fill_get vals L L' a t m (fun j hj => h j (by omega))
    unfold fill
    by_cases hd : dstOf ops m = some t
    · rw [h m (by omega) hd]
      split
      · exact put_get_same _ _ _ _ _ (by rw [fill_size, fill_size]) hd
      · exact ih
    · split <;> split <;> simp only [put_get _ _ _ _ hd, ih]
theorem fill_congr (vals : Nat → Value) (L L' : Nat → Bool) (a : Act) : ∀ m, (∀ j, j < m → L j = L' j) → fill ops vals L a m = fill ops vals L' a m
  | 0, _ => rfl
  | m + 1, h => by
    unfold fill
    rw [h m (by omega), fill_congr vals L L' a m (fun j hj => h j (by omega))]

/-- One more is listed: i, of whose temporary no listed operation behind it is a writer. -/
theorem fill_put (vals : Nat → Value) (L : Nat → Bool) (a : Act) (i : Nat) (hi : L i = false) (h : ∀ j, i < j → L j = true → ∀ d, dstOf ops i = some d → dstOf ops j ≠ some d) :
    ∀ m, i < m → (fill ops vals L a m).put (dstOf ops i) (vals i) = fill ops vals (fun j => if j = i then true else L j) a m
  | 0, hm => absurd hm (Nat.not_lt_zero _)
  | m + 1, hm => by
    by_cases hmi : m = i
    · subst hmi
      unfold fill
      simp only [hi, if_true]
      rw [fill_congr vals L (fun j => if j = m then true else L j) a m (fun j hj => by rw [if_neg (by omega)])]
      simp
    · have ih := fill_put vals L a i hi h m (by omega)
      unfold fill
      simp only [if_neg hmi]
      split
      · rename_i hl
        rw [Act.put_comm _ _ _ (fun d hd => h m (by omega) hl d hd |> fun hx => hx) |> Eq.symm, ih]
      · exact ih

theorem eval_of_get {a a' : Act} (x : Operand) (h : ∀ t, x = .tmp t → a.tmps[t]? = a'.tmps[t]?) : a.eval x = a'.eval x := by
  cases x with
  | tmp t => simp only [Act.eval, Array.getD_eq_getD_getElem?, h t rfl]
  | _ => rfl
theorem execOp_of_get (o : Oper) (hs : ∀ cs b, o.op ≠ .select cs b) {a a' : Act} (h : ∀ t ∈ o.looksAt ops, a.tmps[t]? = a'.tmps[t]?) : execOp a.eval o = execOp a'.eval o :=
  execOp_congr o hs fun x hx => eval_of_get x fun t ht => h t (by
    subst ht
    exact List.mem_append_left _ (List.mem_filterMap.2 ⟨.tmp t, by simpa using hx, rfl⟩))
theorem wanted_of_get (o : Oper) {a a' : Act} (h : ∀ t ∈ o.looksAt ops, a.tmps[t]? = a'.tmps[t]?) : Region.wanted o (yielded ops a.tmps) = Region.wanted o (yielded ops a'.tmps) := by
  unfold Region.wanted
  cases hg : o.guard with
  | none => rfl
  | some p =>
    obtain ⟨g, b⟩ := p
    have : yielded ops a.tmps g = yielded ops a'.tmps g := by
      unfold yielded
      cases hd : (ops[g]?).bind (·.dst) with
      | none => rfl
      | some d =>
        have := h d (List.mem_append_right _ (by rw [hg]; simp [hd]))
        simp only [Option.bind_some, this]
    simp only [this]

/-! ### The check, and the law -/
def tempsB (b : Array Nat) (ops : Array Oper) : Bool :=
  (List.range ops.size).all fun i => (List.range ops.size).all fun j => i == j ||
    match ops[i]?, ops[j]? with
    | some oi, some oj => (match oj.dst with
      | some t => (!(oi.looksAt ops).contains t && oi.dst != some t) || (b.getD (max i j) 0).testBit (min i j)
      | none => true)
    | _, _ => true
def isEff (ph : Nat → Nat × Nat × Nat) (i : Nat) : Bool := (ph i).2.2 == 1
def phaseB (b : Array Nat) (n : Nat) (ph : Nat → Nat × Nat × Nat) : Bool :=
  (List.range n).all fun i =>
    if isEff ph i then
      (ph i).1 == (List.range n).countP (fun j => isEff ph j && decide (j < i)) && (ph i).2.1 == (ph i).1 &&
        (List.range i).all fun j => !isEff ph j || (b.getD i 0).testBit j
    else (ph i).2.2 == 0 && decide ((ph i).1 ≤ (List.range n).countP (fun j => isEff ph j && (b.getD i 0).testBit j)) &&
      decide ((List.range n).countP (fun j => isEff ph j && !(b.getD j 0).testBit i) ≤ (ph i).2.1)
def edgesB (ops : Array Oper) : Bool :=
  (List.range ops.size).all fun i => match ops[i]? with
    | some o => o.after.all fun e => !Region.binds .any e || decide (e.on < i)
    | none => true
def tailB (b : Array Nat) (ops : Array Oper) (n : Nat) : Bool :=
  (List.range ops.size).all fun i => decide (i < n) || (List.range i).all fun j => (b.getD i 0).testBit j
def phB' (b : Array Nat) (ops : Array Oper) (n : Nat) (ph : Nat → Nat × Nat × Nat) : Bool :=
  Region.noSelect ops && decide (n ≤ ops.size) && edgesB ops && tailB b ops n && tempsB b ops && phaseB b n ph
def phB (ops : Array Oper) (n : Nat) (ph : Nat → Nat × Nat × Nat) : Bool := phB' (Region.before ops) ops n ph

theorem or_t {x y : Bool} (h : (x || y) = true) : x = true ∨ y = true := by simpa using h
theorem fill_succ (vals : Nat → Value) (L : Nat → Bool) (a : Act) (m : Nat) : fill ops vals L a (m + 1) = if L m then (fill ops vals L a m).put (dstOf ops m) (vals m) else fill ops vals L a m := rfl

theorem fill_lt (vals : Nat → Value) (a : Act) (i : Nat) : ∀ d, fill ops vals (fun j => decide (j < i)) a (i + d) = fill ops vals (fun _ => true) a i
  | 0 => fill_congr vals _ _ a _ (fun j hj => by simpa using hj)
  | d + 1 => by
    rw [← Nat.add_assoc, fill_succ, if_neg (by simp)]
    exact fill_lt vals a i d

theorem tempsB_spec (h : tempsB (Region.before ops) ops = true) {i j : Nat} {oi oj : Oper} (hi : ops[i]? = some oi) (hj : ops[j]? = some oj) (hne : i ≠ j) {t : Tmp} (ht : oj.dst = some t)
    (hn : t ∈ oi.looksAt ops ∨ oi.dst = some t) : anc ops (max i j) (min i j) = true := by
  have li := (Array.getElem?_eq_some_iff.1 hi).1
  have lj := (Array.getElem?_eq_some_iff.1 hj).1
  have h1 := List.all_eq_true.1 (List.all_eq_true.1 h i (List.mem_range.2 li)) j (List.mem_range.2 lj)
  simp only [hi, hj, ht] at h1
  rcases or_t h1 with h2 | h2
  · exact absurd (by simpa using h2) hne
  · rcases or_t h2 with h3 | h3
    · simp only [Bool.and_eq_true, Bool.not_eq_true', bne_iff_ne, ne_eq] at h3
      rcases hn with hn | hn
      · have := List.contains_iff_mem.2 hn; rw [h3.1] at this; cases this
      · exact absurd hn h3.2
    · exact h3

theorem countP_set (p : Nat → Bool) (L : Nat → Bool) (i : Nat) (hi : L i = false) : ∀ n, i < n →
    (List.range n).countP (fun j => p j && (if j = i then true else L j)) = (List.range n).countP (fun j => p j && L j) + (if p i then 1 else 0)
  | 0, h => absurd h (Nat.not_lt_zero _)
  | n + 1, h => by
    simp only [List.range_succ, List.countP_append, List.countP_cons, List.countP_nil]
    by_cases hn : n = i
    · subst hn
      have : (List.range n).countP (fun j => p j && (if j = n then true else L j)) = (List.range n).countP (fun j => p j && L j) := List.countP_congr fun x hx => by
        have := List.mem_range.1 hx
        rw [if_neg (by omega)]
      rw [this]
      simp [hi]
    · have ih := countP_set p L i hi n (by omega)
      rw [ih]
      simp only [if_neg hn]
      omega

theorem getD_ft {listed : Array Bool} {i : Nat} (hi : i < listed.size) : listed.getD i true = listed.getD i false := by
  simp [hi]
theorem getD_set_i {listed : Array Bool} {i : Nat} (hi : i < listed.size) (j : Nat) : (listed.setIfInBounds i true).getD j false = if j = i then true else listed.getD j false := by
  by_cases h : j = i
  · subst h; simp [hi]
  · rw [getD_set_ne false (fun e => h e.symm), if_neg h]

theorem closed_set {listed : Array Bool} (_hs : listed.size = ops.size) (hc : Closed ops listed) {i : Nat} (hi : i ∈ Region.ready .any ops listed) : Closed ops (listed.setIfInBounds i true) := by
  obtain ⟨_, oi, hoi, hall⟩ := mem_ready.1 hi
  intro j oj hj hl e he hb
  by_cases hij : i = j
  · subst hij
    obtain rfl : oj = oi := Option.some.inj (hj.symm.trans hoi)
    exact getD_set_true (hall e he hb)
  · rw [getD_set_ne false hij] at hl
    exact getD_set_true (hc j oj hj hl e he hb)

/-- Each of the tail waits for those of the tail that are ahead of it. -/
def chainB' (b : Array Nat) (ops : Array Oper) (n : Nat) : Bool :=
  (List.range ops.size).all fun i => (List.range i).all fun j => decide (j < n) || (b.getD i 0).testBit j
theorem chain_of_tail {b : Array Nat} {n : Nat} (h : tailB b ops n = true) : chainB' b ops n = true := by
  refine List.all_eq_true.2 fun i hi => List.all_eq_true.2 fun j hj => ?_
  rcases or_t (List.all_eq_true.1 h i hi) with h1 | h1
  · have := of_decide_eq_true h1
    have := List.mem_range.1 hj
    simp; omega
  · rw [List.all_eq_true.1 h1 j hj]; simp
/-- The tail: what is left waits for all that is ahead of it. -/
theorem wpAny_tail {n : Nat} (hE : edgesB ops = true) (hT : chainB' (Region.before ops) ops n = true) : ∀ (l : List Oper) (k : Nat) (listed : Array Bool) (a : Act) (w : World), n ≤ k → l.length + k = ops.size →
    (∀ j, l[j]? = ops[k + j]?) → listed.size = ops.size → Closed ops listed → (∀ j, j < ops.size → (listed.getD j false = true ↔ j < k)) →
    wpList P ops Q l a w → wpAny P .any ops Q l.length listed a w
  | [], k, listed, a, w, _, hk, _, _hs, _, hL, h => by
    refine ⟨?_, h⟩
    apply List.eq_nil_iff_forall_not_mem.2
    intro j hj
    obtain ⟨h0, o, ho, _⟩ := mem_ready.1 hj
    have lj := (Array.getElem?_eq_some_iff.1 ho).1
    rw [getD_ft (by omega)] at h0
    have := (hL j lj).2 (by simp at hk; omega)
    rw [h0] at this; cases this
  | o :: l, k, listed, a, w, hn, hk, hl, hs, hc, hL, h => by
    have h0 : ops[k]? = some o := by simpa using (hl 0).symm
    have lk := (Array.getElem?_eq_some_iff.1 h0).1
    have hkr : k ∈ Region.ready .any ops listed := by
      rw [mem_ready, getD_ft (by omega)]
      refine ⟨?_, o, h0, fun e he hb => ?_⟩
      · cases hx : listed.getD k false with
        | false => rfl
        | true => have := (hL k lk).1 hx; omega
      · have h1 := List.all_eq_true.1 hE k (List.mem_range.2 lk)
        simp only [h0] at h1
        have h2 := Array.all_eq_true_iff_forall_mem.1 h1 e he
        simp only [hb, Bool.not_true, Bool.false_or, decide_eq_true_eq] at h2
        exact (hL e.on (by omega)).2 h2
    refine ⟨fun h1 => (by rw [h1] at hkr; cases hkr), fun i hi => ?_⟩
    have hik : i = k := by
      obtain ⟨hun, oi, hoi, _⟩ := mem_ready.1 hi
      have li := (Array.getElem?_eq_some_iff.1 hoi).1
      rw [getD_ft (by omega)] at hun
      rcases Nat.lt_trichotomy i k with h1 | h1 | h1
      · have := (hL i li).2 h1; rw [hun] at this; cases this
      · exact h1
      · have h2 := List.all_eq_true.1 (List.all_eq_true.1 hT i (List.mem_range.2 li)) k (List.mem_range.2 h1)
        rcases or_t h2 with h3 | h3
        · have := of_decide_eq_true h3; omega
        · have h4 := anc_ready hc hi k h3
          have := (hL k lk).1 h4; omega
    subst hik
    have hw : wpOp P ops Q i (wpList P ops Q l) a w := by unfold wpOp; simp only [h0]; exact h
    refine wpOp_mono (fun a' w' h' => wpAny_tail hE hT l (i + 1) _ a' w' (by omega) (by simp only [List.length_cons] at hk; omega)
      (fun j => by have := hl (j + 1); simpa [Nat.add_assoc, Nat.add_comm 1 j] using this) (by simpa using hs) (closed_set hs hc hi) (fun j lj => ?_) h') hw
    rw [getD_set_i (by omega)]
    split
    · rename_i e; subst e; simp
    · rw [hL j lj]; omega

theorem gives_wp {o : Oper} {a : Act} {w : World} {R : Value → World → Prop} {K : Act → World → Prop} (h : gives P o a w R) (hK : ∀ v w', R v w' → K (a.put o.dst v) w') : o.wp P a w K Q := by
  unfold gives at h
  unfold Oper.wp
  generalize (execOp a.eval o).run P w = r at *
  cases r with
  | ok x w' =>
    cases x <;> simp only [givesUpon] at h <;> simp only [Oper.upon]
    case value v => exact hK _ _ h
    case skip => exact hK _ _ h
    case enter f args => exact h.mono fun e w'' ⟨v, he, hr⟩ => by subst he; exact hK _ _ hr
  | halt x w' => simp only [givesUpon] at h

/-- The head, in whatever order. -/
theorem wpAny_head {S : Nat → World → Prop} {ph : Nat → Nat × Nat × Nat} {n : Nat} (hB : phB ops n ph = true) (vals : Nat → Value) (a0 : Act)
    (hok : ∀ i o, i < n → ops[i]? = some o → OpOk P ops S o (fill ops vals (fun _ => true) a0 i) (vals i) (ph i))
    (htail : ∀ w, S ((List.range n).countP (isEff ph)) w → wpList P ops Q (ops.toList.drop n) (fill ops vals (fun _ => true) a0 n) w) :
    ∀ (c : Nat) (listed : Array Bool) (w : World), listed.size = ops.size → Closed ops listed → (∀ t, n ≤ t → listed.getD t false = false) →
      (List.range n).countP (fun j => !listed.getD j false) = c → S ((List.range n).countP fun j => isEff ph j && listed.getD j false) w →
      wpAny P .any ops Q (c + (ops.size - n)) listed (fill ops vals (fun j => listed.getD j false) a0 n) w := by
  unfold phB phB' at hB
  simp only [Bool.and_eq_true, decide_eq_true_eq] at hB
  obtain ⟨⟨⟨⟨⟨hsel, hn⟩, hE⟩, hT⟩, hM⟩, hP⟩ := hB
  intro c
  induction c with
  | zero =>
    intro listed w hs hc htl hcount hS
    have hall : ∀ j, j < n → listed.getD j false = true := fun j hj => by
      have := (List.countP_eq_zero.1 hcount) j (List.mem_range.2 hj)
      simpa using this
    have e1 : ((List.range n).countP fun j => isEff ph j && listed.getD j false) = (List.range n).countP (isEff ph) :=
      List.countP_congr fun x hx => by rw [hall x (List.mem_range.1 hx)]; simp
    rw [e1] at hS
    rw [fill_congr vals (fun j => listed.getD j false) (fun _ => true) a0 n hall, Nat.zero_add]
    have hlen : (ops.toList.drop n).length = ops.size - n := by simp
    have := wpAny_tail (P := P) (Q := Q) hE (chain_of_tail hT) (ops.toList.drop n) n listed _ w (Nat.le_refl _) (by rw [hlen]; omega) (fun j => by simp [List.getElem?_drop]) hs hc
      (fun j _ => ⟨fun h => (by
        rcases Nat.lt_or_ge j n with h' | h'
        · exact h'
        · rw [htl j h'] at h; cases h), fun h => hall j h⟩) (htail w hS)
    rwa [hlen] at this
  | succ c ih =>
    intro listed w hs hc htl hcount hS
    -- somebody of the head is not listed
    have hex : ∃ i, i < n ∧ listed.getD i false = false := by
      have : 0 < (List.range n).countP (fun j => !listed.getD j false) := by omega
      obtain ⟨i, hi, hp⟩ := List.countP_pos_iff.1 this
      exact ⟨i, List.mem_range.1 hi, by simpa using hp⟩
    have hhead : ∀ i ∈ Region.ready .any ops listed, i < n := by
      intro i hi
      rcases Nat.lt_or_ge i n with h | h
      · exact h
      · obtain ⟨hun, oi, hoi, _⟩ := mem_ready.1 hi
        have li := (Array.getElem?_eq_some_iff.1 hoi).1
        have h2 := List.all_eq_true.1 hT i (List.mem_range.2 li)
        rcases or_t h2 with h3 | h3
        · have := of_decide_eq_true h3; omega
        · obtain ⟨j, hj, hjf⟩ := hex
          have h4 := anc_ready hc hi j (List.all_eq_true.1 h3 j (List.mem_range.2 (by omega)))
          rw [hjf] at h4; cases h4
    have hne : Region.ready .any ops listed ≠ [] := by
      -- the least one that is not listed
      have : ∀ d i, i = d → i < n → listed.getD i false = false → Region.ready .any ops listed ≠ [] := by
        intro d
        induction d using Nat.strongRecOn with
        | _ d ihd =>
          intro i hid hin hif
          have li : i < ops.size := by omega
          by_cases hr : i ∈ Region.ready .any ops listed
          · intro h; rw [h] at hr; cases hr
          · have hox : ops[i]? = some ops[i] := by simp [li]
            have : ∃ e ∈ ops[i].after, Region.binds .any e = true ∧ listed.getD e.on false = false := by
              refine Classical.byContradiction fun hno => hr (mem_ready.2 ⟨by rw [getD_ft (by omega)]; exact hif, _, hox, fun e he hb => ?_⟩)
              cases hx : listed.getD e.on false with
              | true => rfl
              | false => exact absurd ⟨e, he, hb, hx⟩ hno
            obtain ⟨e, he, hb, hx⟩ := this
            have h1 := List.all_eq_true.1 hE i (List.mem_range.2 li)
            simp only [hox] at h1
            have h2 := Array.all_eq_true_iff_forall_mem.1 h1 e he
            simp only [hb, Bool.not_true, Bool.false_or, decide_eq_true_eq] at h2
            exact ihd e.on (by omega) e.on rfl (by omega) hx
      obtain ⟨i, hi, hif⟩ := hex
      exact this i i rfl hi hif
    rw [show c + 1 + (ops.size - n) = (c + (ops.size - n)) + 1 by omega]
    refine ⟨fun h => absurd h hne, fun i hi => ?_⟩
    have hin := hhead i hi
    obtain ⟨hun, oi, hoi, hall⟩ := mem_ready.1 hi
    have li := (Array.getElem?_eq_some_iff.1 hoi).1
    have hif : listed.getD i false = false := by rw [← getD_ft (by omega)]; exact hun
    -- a listed one does not have i ahead of it
    have hno : ∀ j, listed.getD j false = true → anc ops j i = true → False := fun j hj h => by
      have := anc_listed hc j hj i h; rw [hif] at this; cases this
    have hdst : ∀ j t, dstOf ops j = some t → ∃ oj, ops[j]? = some oj ∧ oj.dst = some t := fun j t h => by
      unfold dstOf at h
      cases hj : ops[j]? with
      | none => rw [hj] at h; cases h
      | some oj => rw [hj] at h; exact ⟨oj, rfl, h⟩
    have hget : ∀ t ∈ oi.looksAt ops, (fill ops vals (fun j => listed.getD j false) a0 n).tmps[t]? = (fill ops vals (fun _ => true) a0 i).tmps[t]? := by
      intro t ht
      have key : ∀ j, j < n → dstOf ops j = some t → listed.getD j false = decide (j < i) := by
        intro j hj hd
        obtain ⟨oj, hoj, hdj⟩ := hdst j t hd
        rcases Nat.lt_trichotomy j i with h1 | h1 | h1
        · have := tempsB_spec hM hoi hoj (by omega) hdj (.inl ht)
          rw [show max i j = i by omega, show min i j = j by omega] at this
          rw [anc_ready hc hi j this]; simp [h1]
        · subst h1; rw [hif]; simp
        · have := tempsB_spec hM hoi hoj (by omega) hdj (.inl ht)
          rw [show max i j = j by omega, show min i j = i by omega] at this
          cases hl : listed.getD j false with
          | true => exact (hno j hl this).elim
          | false => simp; omega
      have e1 := fill_get (ops := ops) vals (fun j => listed.getD j false) (fun j => decide (j < i)) a0 t n key
      rw [e1]
      rw [show n = i + (n - i) by omega, fill_lt _ a0 i (n - i)]
    have hput : (fill ops vals (fun j => listed.getD j false) a0 n).put oi.dst (vals i) = fill ops vals (fun j => (listed.setIfInBounds i true).getD j false) a0 n := by
      have hd : oi.dst = dstOf ops i := by simp [dstOf, hoi]
      rw [hd, fill_put vals (fun j => listed.getD j false) a0 i hif ?_ n hin]
      · exact fill_congr vals _ _ a0 n (fun j _ => by rw [getD_set_i (by omega)])
      · intro j hij hl d hdi hdj
        obtain ⟨oj, hoj, hdj'⟩ := hdst j d hdj
        have := tempsB_spec hM hoi hoj (by omega) hdj' (.inr (by rw [hd]; exact hdi))
        rw [show max i j = j by omega, show min i j = i by omega] at this
        exact hno j hl this
    have hcount' : (List.range n).countP (fun j => !(listed.setIfInBounds i true).getD j false) = c := by
      have h1 := countP_set (fun _ => true) (fun j => listed.getD j false) i hif n hin
      have h2 : ∀ p : Nat → Bool, (List.range n).countP (fun j => !p j) + (List.range n).countP p = n := fun p => by
        have := List.length_eq_countP_add_countP (p := p) (l := List.range n)
        simp only [List.length_range] at this
        have h3 : (List.range n).countP (fun j => !p j) = (List.range n).countP (fun a => decide ¬p a = true) := List.countP_congr fun x _ => by simp
        omega
      have h4 := h2 (fun j => listed.getD j false)
      have h5 := h2 (fun j => (listed.setIfInBounds i true).getD j false)
      have h6 : (List.range n).countP (fun j => (listed.setIfInBounds i true).getD j false) = (List.range n).countP (fun j => if j = i then true else listed.getD j false) :=
        List.countP_congr fun x _ => by rw [getD_set_i (by omega)]
      simp only [Bool.true_and, if_true] at h1
      omega
    have hphase : ∀ e, e = (ph i).2.2 → (List.range n).countP (fun j => isEff ph j && (listed.setIfInBounds i true).getD j false) = (List.range n).countP (fun j => isEff ph j && listed.getD j false) + e := by
      intro e he
      have h1 := countP_set (isEff ph) (fun j => listed.getD j false) i hif n hin
      have h6 : (List.range n).countP (fun j => isEff ph j && (listed.setIfInBounds i true).getD j false) = (List.range n).countP (fun j => isEff ph j && (if j = i then true else listed.getD j false)) :=
        List.countP_congr fun x _ => by rw [getD_set_i (by omega)]
      rw [h6, h1]
      have h7 := List.all_eq_true.1 hP i (List.mem_range.2 hin)
      by_cases hx : isEff ph i = true
      · rw [if_pos hx]; unfold isEff at hx; simp only [beq_iff_eq] at hx; omega
      · rw [if_neg hx]
        rw [if_neg hx] at h7
        simp only [Bool.and_eq_true, beq_iff_eq] at h7
        omega
    have hrange : (ph i).1 ≤ (List.range n).countP (fun j => isEff ph j && listed.getD j false) ∧ (List.range n).countP (fun j => isEff ph j && listed.getD j false) ≤ (ph i).2.1 := by
      have h7 := List.all_eq_true.1 hP i (List.mem_range.2 hin)
      by_cases hx : isEff ph i = true
      · rw [if_pos hx] at h7
        simp only [Bool.and_eq_true, beq_iff_eq] at h7
        obtain ⟨⟨h8, h9⟩, h10⟩ := h7
        have : (List.range n).countP (fun j => isEff ph j && listed.getD j false) = (List.range n).countP (fun j => isEff ph j && decide (j < i)) := by
          refine List.countP_congr fun j hj => ?_
          have hjn := List.mem_range.1 hj
          cases hej : isEff ph j with
          | false => simp
          | true =>
            simp only [Bool.true_and, decide_eq_true_eq]
            rcases Nat.lt_trichotomy j i with h1 | h1 | h1
            · have h2 := List.all_eq_true.1 h10 j (List.mem_range.2 h1)
              simp only [hej, Bool.not_true, Bool.false_or] at h2
              simp [anc_ready hc hi j h2, h1]
            · subst h1; simp [hif]
            · have h7' := List.all_eq_true.1 hP j hj
              rw [if_pos hej] at h7'
              simp only [Bool.and_eq_true] at h7'
              have h2 := List.all_eq_true.1 h7'.2 i (List.mem_range.2 h1)
              simp only [hx, Bool.not_true, Bool.false_or] at h2
              cases hl : listed.getD j false with
              | true => exact (hno j hl h2).elim
              | false => simp; omega
        omega
      · rw [if_neg hx] at h7
        simp only [Bool.and_eq_true, decide_eq_true_eq] at h7
        obtain ⟨⟨_, h8⟩, h9⟩ := h7
        refine ⟨Nat.le_trans h8 (List.countP_mono_left fun j hj h => ?_), Nat.le_trans (List.countP_mono_left fun j hj h => ?_) h9⟩
        · simp only [Bool.and_eq_true] at h ⊢
          exact ⟨h.1, anc_ready hc hi j h.2⟩
        · simp only [Bool.and_eq_true, Bool.not_eq_true'] at h ⊢
          refine ⟨h.1, ?_⟩
          cases hl : ((Region.before ops).getD j 0).testBit i with
          | true => exact (hno j h.2 hl).elim
          | false => rfl
    have hclosed' := closed_set hs hc hi
    have htl' : ∀ t, n ≤ t → (listed.setIfInBounds i true).getD t false = false := fun t ht => by
      rw [getD_set_ne false (by omega)]; exact htl t ht
    have hfin : ∀ w', S ((List.range n).countP (fun j => isEff ph j && listed.getD j false) + (ph i).2.2) w' →
        wpAny P .any ops Q (c + (ops.size - n)) (listed.setIfInBounds i true) ((fill ops vals (fun j => listed.getD j false) a0 n).put oi.dst (vals i)) w' := fun w' hS' => by
      rw [hput]
      refine ih (listed.setIfInBounds i true) w' (by simpa using hs) hclosed' htl' hcount' ?_
      rw [hphase _ rfl]; exact hS'
    unfold wpOp
    simp only [hoi]
    have hx := hok i oi hin hoi
    have hsl := fun cs b => Region.noSelect_spec hsel i oi cs b hoi
    rw [wanted_of_get oi hget]
    rcases hx with ⟨hw, hg⟩ | ⟨hw, hv, he⟩
    · rw [if_pos hw]
      left
      have := hg _ hrange.1 hrange.2 w hS
      refine gives_wp (R := fun u w' => u = vals i ∧ S ((List.range n).countP (fun j => isEff ph j && listed.getD j false) + (ph i).2.2) w') ?_ (fun v w' ⟨h1, h2⟩ => by subst h1; exact hfin w' h2)
      unfold gives
      rw [execOp_of_get oi hsl hget]
      exact this
    · rw [if_neg (by rw [hw]; simp)]
      have := hfin w (by rw [he]; exact hS)
      rw [hv] at this
      exact this

theorem fill_vals (vals vals' : Nat → Value) (L : Nat → Bool) (a : Act) : ∀ m, (∀ j, j < m → vals j = vals' j) → fill ops vals L a m = fill ops vals' L a m
  | 0, _ => rfl
  | m + 1, h => by
    unfold fill
    rw [fill_vals vals vals' L a m (fun j hj => h j (by omega)), h m (by omega)]

theorem vals_of_wpPh {S : Nat → World → Prop} {ph : Nat → Nat × Nat × Nat} {Lq : Act → Prop} (a0 : Act) : ∀ (l : List Oper) (i : Nat) (a : Act) (vals0 : Nat → Value),
    (∀ j, j < l.length → l[j]? = ops[i + j]?) → a = fill ops vals0 (fun _ => true) a0 i → wpPh P ops S ph Lq i l a →
    ∃ vals : Nat → Value, (∀ j, j < i → vals j = vals0 j) ∧ (∀ j o, i ≤ j → j < i + l.length → ops[j]? = some o → OpOk P ops S o (fill ops vals (fun _ => true) a0 j) (vals j) (ph j)) ∧
      Lq (fill ops vals (fun _ => true) a0 (i + l.length))
  | [], i, a, vals0, _, ha, h => ⟨vals0, fun _ _ => rfl, fun j o h1 h2 => (by simp at h2; omega), by subst ha; exact h⟩
  | o :: l, i, a, vals0, hl, ha, h => by
    obtain ⟨v, hok, h'⟩ := h
    have h0 : ops[i]? = some o := by simpa using (hl 0 (by simp)).symm
    have hv1 : ∀ j, j < i → (fun j => if j = i then v else vals0 j) j = vals0 j := fun j hj => if_neg (by omega)
    obtain ⟨vals, e1, e2, e3⟩ := vals_of_wpPh a0 l (i + 1) (a.put o.dst v) (fun j => if j = i then v else vals0 j)
      (fun j hj => by have := hl (j + 1) (by simp; omega); simpa [Nat.add_assoc, Nat.add_comm 1 j] using this)
      (by
        subst ha
        rw [fill_succ]
        simp only [if_true]
        rw [fill_vals (fun j => if j = i then v else vals0 j) vals0 _ a0 i hv1]
        simp [dstOf, h0]) h'
    have ei : vals i = v := by rw [e1 i (by omega)]; simp
    have ef : fill ops vals (fun _ => true) a0 i = fill ops vals0 (fun _ => true) a0 i := fill_vals _ _ _ a0 i (fun j hj => by rw [e1 j (by omega), if_neg (by omega)])
    refine ⟨vals, fun j hj => by rw [e1 j (by omega), if_neg (by omega)], fun j o' h1 h2 ho => ?_, by simpa [Nat.add_assoc, Nat.add_comm 1] using e3⟩
    by_cases hj : j = i
    · subst hj
      obtain rfl : o' = o := Option.some.inj (ho.symm.trans h0)
      rw [ef, ei, ← ha]; exact hok
    · exact e2 j o' (by omega) (by simp only [List.length_cons] at h2; omega) ho

/-- Where the first n operations are done and no other is: whatever order the rest takes, Q. -/
def At (P : Program) (ops : Array Oper) (Q : Exit → Act → World → Prop) (n : Nat) (a : Act) (w : World) : Prop :=
  ∀ listed : Array Bool, listed.size = ops.size → Closed ops listed → (∀ j, j < ops.size → listed.getD j false = decide (j < n)) → wpAny P .any ops Q (ops.size - n) listed a w
/-- Behind place n each waits for all before n. -/
def sepB (b : Array Nat) (ops : Array Oper) (n : Nat) : Bool :=
  (List.range ops.size).all fun i => decide (i < n) || (List.range n).all fun j => (b.getD i 0).testBit j
def phS (b : Array Nat) (ops : Array Oper) (s n : Nat) (ph : Nat → Nat × Nat × Nat) : Bool :=
  Region.noSelect ops && decide (n ≤ ops.size) && edgesB ops && sepB b ops n && tempsB b ops && phaseB b n ph && decide (s ≤ n)
theorem wpAny_seg {S : Nat → World → Prop} {ph : Nat → Nat × Nat × Nat} {s n : Nat} (hB : phS (Region.before ops) ops s n ph = true) (vals : Nat → Value) (a0 : Act) (skip : Nat → Bool)
    (hok : ∀ i o, skip i = false → i < n → ops[i]? = some o → OpOk P ops S o (fill ops vals (fun _ => true) a0 i) (vals i) (ph i))
    (htail : ∀ w, S ((List.range n).countP (isEff ph)) w → At P ops Q n (fill ops vals (fun _ => true) a0 n) w) :
    ∀ (c : Nat) (listed : Array Bool) (w : World), listed.size = ops.size → Closed ops listed → (∀ t, n ≤ t → listed.getD t false = false) → (∀ t, skip t = true → listed.getD t false = true) →
      (List.range n).countP (fun j => !listed.getD j false) = c → S ((List.range n).countP fun j => isEff ph j && listed.getD j false) w →
      wpAny P .any ops Q (c + (ops.size - n)) listed (fill ops vals (fun j => listed.getD j false) a0 n) w := by
  unfold phS at hB
  simp only [Bool.and_eq_true, decide_eq_true_eq] at hB
  obtain ⟨⟨⟨⟨⟨⟨hsel, hn⟩, hE⟩, hT⟩, hM⟩, hP⟩, _⟩ := hB
  intro c
  induction c with
  | zero =>
    intro listed w hs hc htl hlo hcount hS
    have hall : ∀ j, j < n → listed.getD j false = true := fun j hj => by
      have := (List.countP_eq_zero.1 hcount) j (List.mem_range.2 hj)
      simpa using this
    have e1 : ((List.range n).countP fun j => isEff ph j && listed.getD j false) = (List.range n).countP (isEff ph) :=
      List.countP_congr fun x hx => by rw [hall x (List.mem_range.1 hx)]; simp
    rw [e1] at hS
    rw [fill_congr vals (fun j => listed.getD j false) (fun _ => true) a0 n hall, Nat.zero_add]
    exact htail w hS listed hs hc (fun j hj => by
      rcases Nat.lt_or_ge j n with h' | h'
      · rw [hall j h']; simp [h']
      · rw [htl j h']; simp; omega)
  | succ c ih =>
    intro listed w hs hc htl hlo hcount hS
    -- somebody of the head is not listed
    have hex : ∃ i, i < n ∧ listed.getD i false = false := by
      have : 0 < (List.range n).countP (fun j => !listed.getD j false) := by omega
      obtain ⟨i, hi, hp⟩ := List.countP_pos_iff.1 this
      exact ⟨i, List.mem_range.1 hi, by simpa using hp⟩
    have hhead : ∀ i ∈ Region.ready .any ops listed, i < n := by
      intro i hi
      rcases Nat.lt_or_ge i n with h | h
      · exact h
      · obtain ⟨hun, oi, hoi, _⟩ := mem_ready.1 hi
        have li := (Array.getElem?_eq_some_iff.1 hoi).1
        have h2 := List.all_eq_true.1 hT i (List.mem_range.2 li)
        rcases or_t h2 with h3 | h3
        · have := of_decide_eq_true h3; omega
        · obtain ⟨j, hj, hjf⟩ := hex
          have h4 := anc_ready hc hi j (List.all_eq_true.1 h3 j (List.mem_range.2 hj))
          rw [hjf] at h4; cases h4
    have hne : Region.ready .any ops listed ≠ [] := by
      -- the least one that is not listed
      have : ∀ d i, i = d → i < n → listed.getD i false = false → Region.ready .any ops listed ≠ [] := by
        intro d
        induction d using Nat.strongRecOn with
        | _ d ihd =>
          intro i hid hin hif
          have li : i < ops.size := by omega
          by_cases hr : i ∈ Region.ready .any ops listed
          · intro h; rw [h] at hr; cases hr
          · have hox : ops[i]? = some ops[i] := by simp [li]
            have : ∃ e ∈ ops[i].after, Region.binds .any e = true ∧ listed.getD e.on false = false := by
              refine Classical.byContradiction fun hno => hr (mem_ready.2 ⟨by rw [getD_ft (by omega)]; exact hif, _, hox, fun e he hb => ?_⟩)
              cases hx : listed.getD e.on false with
              | true => rfl
              | false => exact absurd ⟨e, he, hb, hx⟩ hno
            obtain ⟨e, he, hb, hx⟩ := this
            have h1 := List.all_eq_true.1 hE i (List.mem_range.2 li)
            simp only [hox] at h1
            have h2 := Array.all_eq_true_iff_forall_mem.1 h1 e he
            simp only [hb, Bool.not_true, Bool.false_or, decide_eq_true_eq] at h2
            exact ihd e.on (by omega) e.on rfl (by omega) hx
      obtain ⟨i, hi, hif⟩ := hex
      exact this i i rfl hi hif
    rw [show c + 1 + (ops.size - n) = (c + (ops.size - n)) + 1 by omega]
    refine ⟨fun h => absurd h hne, fun i hi => ?_⟩
    have hin := hhead i hi
    obtain ⟨hun, oi, hoi, hall⟩ := mem_ready.1 hi
    have li := (Array.getElem?_eq_some_iff.1 hoi).1
    have hif : listed.getD i false = false := by rw [← getD_ft (by omega)]; exact hun
    -- a listed one does not have i ahead of it
    have hno : ∀ j, listed.getD j false = true → anc ops j i = true → False := fun j hj h => by
      have := anc_listed hc j hj i h; rw [hif] at this; cases this
    have hdst : ∀ j t, dstOf ops j = some t → ∃ oj, ops[j]? = some oj ∧ oj.dst = some t := fun j t h => by
      unfold dstOf at h
      cases hj : ops[j]? with
      | none => rw [hj] at h; cases h
      | some oj => rw [hj] at h; exact ⟨oj, rfl, h⟩
    have hget : ∀ t ∈ oi.looksAt ops, (fill ops vals (fun j => listed.getD j false) a0 n).tmps[t]? = (fill ops vals (fun _ => true) a0 i).tmps[t]? := by
      intro t ht
      have key : ∀ j, j < n → dstOf ops j = some t → listed.getD j false = decide (j < i) := by
        intro j hj hd
        obtain ⟨oj, hoj, hdj⟩ := hdst j t hd
        rcases Nat.lt_trichotomy j i with h1 | h1 | h1
        · have := tempsB_spec hM hoi hoj (by omega) hdj (.inl ht)
          rw [show max i j = i by omega, show min i j = j by omega] at this
          rw [anc_ready hc hi j this]; simp [h1]
        · subst h1; rw [hif]; simp
        · have := tempsB_spec hM hoi hoj (by omega) hdj (.inl ht)
          rw [show max i j = j by omega, show min i j = i by omega] at this
          cases hl : listed.getD j false with
          | true => exact (hno j hl this).elim
          | false => simp; omega
      have e1 := fill_get (ops := ops) vals (fun j => listed.getD j false) (fun j => decide (j < i)) a0 t n key
      rw [e1]
      rw [show n = i + (n - i) by omega, fill_lt _ a0 i (n - i)]
    have hput : (fill ops vals (fun j => listed.getD j false) a0 n).put oi.dst (vals i) = fill ops vals (fun j => (listed.setIfInBounds i true).getD j false) a0 n := by
      have hd : oi.dst = dstOf ops i := by simp [dstOf, hoi]
      rw [hd, fill_put vals (fun j => listed.getD j false) a0 i hif ?_ n hin]
      · exact fill_congr vals _ _ a0 n (fun j _ => by rw [getD_set_i (by omega)])
      · intro j hij hl d hdi hdj
        obtain ⟨oj, hoj, hdj'⟩ := hdst j d hdj
        have := tempsB_spec hM hoi hoj (by omega) hdj' (.inr (by rw [hd]; exact hdi))
        rw [show max i j = j by omega, show min i j = i by omega] at this
        exact hno j hl this
    have hcount' : (List.range n).countP (fun j => !(listed.setIfInBounds i true).getD j false) = c := by
      have h1 := countP_set (fun _ => true) (fun j => listed.getD j false) i hif n hin
      have h2 : ∀ p : Nat → Bool, (List.range n).countP (fun j => !p j) + (List.range n).countP p = n := fun p => by
        have := List.length_eq_countP_add_countP (p := p) (l := List.range n)
        simp only [List.length_range] at this
        have h3 : (List.range n).countP (fun j => !p j) = (List.range n).countP (fun a => decide ¬p a = true) := List.countP_congr fun x _ => by simp
        omega
      have h4 := h2 (fun j => listed.getD j false)
      have h5 := h2 (fun j => (listed.setIfInBounds i true).getD j false)
      have h6 : (List.range n).countP (fun j => (listed.setIfInBounds i true).getD j false) = (List.range n).countP (fun j => if j = i then true else listed.getD j false) :=
        List.countP_congr fun x _ => by rw [getD_set_i (by omega)]
      simp only [Bool.true_and, if_true] at h1
      omega
    have hphase : ∀ e, e = (ph i).2.2 → (List.range n).countP (fun j => isEff ph j && (listed.setIfInBounds i true).getD j false) = (List.range n).countP (fun j => isEff ph j && listed.getD j false) + e := by
      intro e he
      have h1 := countP_set (isEff ph) (fun j => listed.getD j false) i hif n hin
      have h6 : (List.range n).countP (fun j => isEff ph j && (listed.setIfInBounds i true).getD j false) = (List.range n).countP (fun j => isEff ph j && (if j = i then true else listed.getD j false)) :=
        List.countP_congr fun x _ => by rw [getD_set_i (by omega)]
      rw [h6, h1]
      have h7 := List.all_eq_true.1 hP i (List.mem_range.2 hin)
      by_cases hx : isEff ph i = true
      · rw [if_pos hx]; unfold isEff at hx; simp only [beq_iff_eq] at hx; omega
      · rw [if_neg hx]
        rw [if_neg hx] at h7
        simp only [Bool.and_eq_true, beq_iff_eq] at h7
        omega
    have hrange : (ph i).1 ≤ (List.range n).countP (fun j => isEff ph j && listed.getD j false) ∧ (List.range n).countP (fun j => isEff ph j && listed.getD j false) ≤ (ph i).2.1 := by
      have h7 := List.all_eq_true.1 hP i (List.mem_range.2 hin)
      by_cases hx : isEff ph i = true
      · rw [if_pos hx] at h7
        simp only [Bool.and_eq_true, beq_iff_eq] at h7
        obtain ⟨⟨h8, h9⟩, h10⟩ := h7
        have : (List.range n).countP (fun j => isEff ph j && listed.getD j false) = (List.range n).countP (fun j => isEff ph j && decide (j < i)) := by
          refine List.countP_congr fun j hj => ?_
          have hjn := List.mem_range.1 hj
          cases hej : isEff ph j with
          | false => simp
          | true =>
            simp only [Bool.true_and, decide_eq_true_eq]
            rcases Nat.lt_trichotomy j i with h1 | h1 | h1
            · have h2 := List.all_eq_true.1 h10 j (List.mem_range.2 h1)
              simp only [hej, Bool.not_true, Bool.false_or] at h2
              simp [anc_ready hc hi j h2, h1]
            · subst h1; simp [hif]
            · have h7' := List.all_eq_true.1 hP j hj
              rw [if_pos hej] at h7'
              simp only [Bool.and_eq_true] at h7'
              have h2 := List.all_eq_true.1 h7'.2 i (List.mem_range.2 h1)
              simp only [hx, Bool.not_true, Bool.false_or] at h2
              cases hl : listed.getD j false with
              | true => exact (hno j hl h2).elim
              | false => simp; omega
        omega
      · rw [if_neg hx] at h7
        simp only [Bool.and_eq_true, decide_eq_true_eq] at h7
        obtain ⟨⟨_, h8⟩, h9⟩ := h7
        refine ⟨Nat.le_trans h8 (List.countP_mono_left fun j hj h => ?_), Nat.le_trans (List.countP_mono_left fun j hj h => ?_) h9⟩
        · simp only [Bool.and_eq_true] at h ⊢
          exact ⟨h.1, anc_ready hc hi j h.2⟩
        · simp only [Bool.and_eq_true, Bool.not_eq_true'] at h ⊢
          refine ⟨h.1, ?_⟩
          cases hl : ((Region.before ops).getD j 0).testBit i with
          | true => exact (hno j h.2 hl).elim
          | false => rfl
    have hclosed' := closed_set hs hc hi
    have htl' : ∀ t, n ≤ t → (listed.setIfInBounds i true).getD t false = false := fun t ht => by
      rw [getD_set_ne false (by omega)]; exact htl t ht
    have hsi : skip i = false := by
      cases h : skip i with
      | false => rfl
      | true => rw [hlo i h] at hif; cases hif
    have hlo' : ∀ t, skip t = true → (listed.setIfInBounds i true).getD t false = true := fun t ht => by
      by_cases hti : t = i
      · subst hti; rw [hsi] at ht; cases ht
      · rw [getD_set_ne false (by omega)]; exact hlo t ht
    have hfin : ∀ w', S ((List.range n).countP (fun j => isEff ph j && listed.getD j false) + (ph i).2.2) w' →
        wpAny P .any ops Q (c + (ops.size - n)) (listed.setIfInBounds i true) ((fill ops vals (fun j => listed.getD j false) a0 n).put oi.dst (vals i)) w' := fun w' hS' => by
      rw [hput]
      refine ih (listed.setIfInBounds i true) w' (by simpa using hs) hclosed' htl' hlo' hcount' ?_
      rw [hphase _ rfl]; exact hS'
    unfold wpOp
    simp only [hoi]
    have hx := hok i oi hsi hin hoi
    have hsl := fun cs b => Region.noSelect_spec hsel i oi cs b hoi
    rw [wanted_of_get oi hget]
    rcases hx with ⟨hw, hg⟩ | ⟨hw, hv, he⟩
    · rw [if_pos hw]
      left
      have := hg _ hrange.1 hrange.2 w hS
      refine gives_wp (R := fun u w' => u = vals i ∧ S ((List.range n).countP (fun j => isEff ph j && listed.getD j false) + (ph i).2.2) w') ?_ (fun v w' ⟨h1, h2⟩ => by subst h1; exact hfin w' h2)
      unfold gives
      rw [execOp_of_get oi hsl hget]
      exact this
    · rw [if_neg (by rw [hw]; simp)]
      have := hfin w (by rw [he]; exact hS)
      rw [hv] at this
      exact this


theorem fill_vals_L (vals vals' : Nat → Value) (L : Nat → Bool) (a : Act) : ∀ m, (∀ j, j < m → L j = true → vals j = vals' j) → fill ops vals L a m = fill ops vals' L a m
  | 0, _ => rfl
  | m + 1, h => by
    unfold fill
    rw [fill_vals_L vals vals' L a m (fun j hj => h j (by omega))]
    by_cases hl : L m = true
    · rw [h m (by omega) hl]
    · simp [hl]
theorem wpAny_ghost {γ : Type} {A : World → Prop} {B : γ → World → Prop} (mk : γ → Value) {s n e : Nat} {oe : Oper} (hB : phS (Region.before ops) ops s n (fun _ => (0, 0, 0)) = true) (hse : s ≤ e) (hen : e < n) (hoe : ops[e]? = some oe)
    (vals : Nat → Value) (a0 : Act)
    (hok : ∀ i o, s ≤ i → i < n → i ≠ e → ops[i]? = some o → OpOk P ops (fun _ => A) o (fill ops vals (fun _ => true) a0 i) (vals i) (0, 0, 0) ∧
      ∀ g, OpOk P ops (fun _ => B g) o (fill ops (fun j => if j = e then mk g else vals j) (fun _ => true) a0 i) (vals i) (0, 0, 0))
    (hgh : Region.wanted oe (yielded ops (fill ops vals (fun _ => true) a0 e).tmps) = true ∧ ∀ w, A w → gives P oe (fill ops vals (fun _ => true) a0 e) w fun u w' => ∃ g, u = mk g ∧ B g w')
    (htail : ∀ g w, B g w → At P ops Q n (fill ops (fun j => if j = e then mk g else vals j) (fun _ => true) a0 n) w) :
    ∀ (c : Nat) (listed : Array Bool) (w : World), listed.size = ops.size → Closed ops listed → (∀ t, n ≤ t → listed.getD t false = false) → (∀ t, t < s → listed.getD t false = true) → listed.getD e false = false →
      (List.range n).countP (fun j => !listed.getD j false) = c → A w →
      wpAny P .any ops Q (c + (ops.size - n)) listed (fill ops vals (fun j => listed.getD j false) a0 n) w := by
  have hB0 := hB
  unfold phS at hB
  simp only [Bool.and_eq_true, decide_eq_true_eq] at hB
  obtain ⟨⟨⟨⟨⟨⟨hsel, hn⟩, hE⟩, hT⟩, hM⟩, hP⟩, _⟩ := hB
  intro c
  induction c with
  | zero =>
    intro listed w hs hc htl hlo hle hcount hS
    have hall : ∀ j, j < n → listed.getD j false = true := fun j hj => by
      have := (List.countP_eq_zero.1 hcount) j (List.mem_range.2 hj)
      simpa using this
    rw [hall e hen] at hle; cases hle
  | succ c ih =>
    intro listed w hs hc htl hlo hle hcount hS
    -- somebody of the head is not listed
    have hex : ∃ i, i < n ∧ listed.getD i false = false := by
      have : 0 < (List.range n).countP (fun j => !listed.getD j false) := by omega
      obtain ⟨i, hi, hp⟩ := List.countP_pos_iff.1 this
      exact ⟨i, List.mem_range.1 hi, by simpa using hp⟩
    have hhead : ∀ i ∈ Region.ready .any ops listed, i < n := by
      intro i hi
      rcases Nat.lt_or_ge i n with h | h
      · exact h
      · obtain ⟨hun, oi, hoi, _⟩ := mem_ready.1 hi
        have li := (Array.getElem?_eq_some_iff.1 hoi).1
        have h2 := List.all_eq_true.1 hT i (List.mem_range.2 li)
        rcases or_t h2 with h3 | h3
        · have := of_decide_eq_true h3; omega
        · obtain ⟨j, hj, hjf⟩ := hex
          have h4 := anc_ready hc hi j (List.all_eq_true.1 h3 j (List.mem_range.2 hj))
          rw [hjf] at h4; cases h4
    have hne : Region.ready .any ops listed ≠ [] := by
      -- the least one that is not listed
      have : ∀ d i, i = d → i < n → listed.getD i false = false → Region.ready .any ops listed ≠ [] := by
        intro d
        induction d using Nat.strongRecOn with
        | _ d ihd =>
          intro i hid hin hif
          have li : i < ops.size := by omega
          by_cases hr : i ∈ Region.ready .any ops listed
          · intro h; rw [h] at hr; cases hr
          · have hox : ops[i]? = some ops[i] := by simp [li]
            have : ∃ e ∈ ops[i].after, Region.binds .any e = true ∧ listed.getD e.on false = false := by
              refine Classical.byContradiction fun hno => hr (mem_ready.2 ⟨by rw [getD_ft (by omega)]; exact hif, _, hox, fun e he hb => ?_⟩)
              cases hx : listed.getD e.on false with
              | true => rfl
              | false => exact absurd ⟨e, he, hb, hx⟩ hno
            obtain ⟨e, he, hb, hx⟩ := this
            have h1 := List.all_eq_true.1 hE i (List.mem_range.2 li)
            simp only [hox] at h1
            have h2 := Array.all_eq_true_iff_forall_mem.1 h1 e he
            simp only [hb, Bool.not_true, Bool.false_or, decide_eq_true_eq] at h2
            exact ihd e.on (by omega) e.on rfl (by omega) hx
      obtain ⟨i, hi, hif⟩ := hex
      exact this i i rfl hi hif
    rw [show c + 1 + (ops.size - n) = (c + (ops.size - n)) + 1 by omega]
    refine ⟨fun h => absurd h hne, fun i hi => ?_⟩
    have hin := hhead i hi
    obtain ⟨hun, oi, hoi, hall⟩ := mem_ready.1 hi
    have li := (Array.getElem?_eq_some_iff.1 hoi).1
    have hif : listed.getD i false = false := by rw [← getD_ft (by omega)]; exact hun
    -- a listed one does not have i ahead of it
    have hno : ∀ j, listed.getD j false = true → anc ops j i = true → False := fun j hj h => by
      have := anc_listed hc j hj i h; rw [hif] at this; cases this
    have hdst : ∀ j t, dstOf ops j = some t → ∃ oj, ops[j]? = some oj ∧ oj.dst = some t := fun j t h => by
      unfold dstOf at h
      cases hj : ops[j]? with
      | none => rw [hj] at h; cases h
      | some oj => rw [hj] at h; exact ⟨oj, rfl, h⟩
    have hget : ∀ t ∈ oi.looksAt ops, (fill ops vals (fun j => listed.getD j false) a0 n).tmps[t]? = (fill ops vals (fun _ => true) a0 i).tmps[t]? := by
      intro t ht
      have key : ∀ j, j < n → dstOf ops j = some t → listed.getD j false = decide (j < i) := by
        intro j hj hd
        obtain ⟨oj, hoj, hdj⟩ := hdst j t hd
        rcases Nat.lt_trichotomy j i with h1 | h1 | h1
        · have := tempsB_spec hM hoi hoj (by omega) hdj (.inl ht)
          rw [show max i j = i by omega, show min i j = j by omega] at this
          rw [anc_ready hc hi j this]; simp [h1]
        · subst h1; rw [hif]; simp
        · have := tempsB_spec hM hoi hoj (by omega) hdj (.inl ht)
          rw [show max i j = j by omega, show min i j = i by omega] at this
          cases hl : listed.getD j false with
          | true => exact (hno j hl this).elim
          | false => simp; omega
      have e1 := fill_get (ops := ops) vals (fun j => listed.getD j false) (fun j => decide (j < i)) a0 t n key
      rw [e1]
      rw [show n = i + (n - i) by omega, fill_lt _ a0 i (n - i)]
    have hput : (fill ops vals (fun j => listed.getD j false) a0 n).put oi.dst (vals i) = fill ops vals (fun j => (listed.setIfInBounds i true).getD j false) a0 n := by
      have hd : oi.dst = dstOf ops i := by simp [dstOf, hoi]
      rw [hd, fill_put vals (fun j => listed.getD j false) a0 i hif ?_ n hin]
      · exact fill_congr vals _ _ a0 n (fun j _ => by rw [getD_set_i (by omega)])
      · intro j hij hl d hdi hdj
        obtain ⟨oj, hoj, hdj'⟩ := hdst j d hdj
        have := tempsB_spec hM hoi hoj (by omega) hdj' (.inr (by rw [hd]; exact hdi))
        rw [show max i j = j by omega, show min i j = i by omega] at this
        exact hno j hl this
    have hcount' : (List.range n).countP (fun j => !(listed.setIfInBounds i true).getD j false) = c := by
      have h1 := countP_set (fun _ => true) (fun j => listed.getD j false) i hif n hin
      have h2 : ∀ p : Nat → Bool, (List.range n).countP (fun j => !p j) + (List.range n).countP p = n := fun p => by
        have := List.length_eq_countP_add_countP (p := p) (l := List.range n)
        simp only [List.length_range] at this
        have h3 : (List.range n).countP (fun j => !p j) = (List.range n).countP (fun a => decide ¬p a = true) := List.countP_congr fun x _ => by simp
        omega
      have h4 := h2 (fun j => listed.getD j false)
      have h5 := h2 (fun j => (listed.setIfInBounds i true).getD j false)
      have h6 : (List.range n).countP (fun j => (listed.setIfInBounds i true).getD j false) = (List.range n).countP (fun j => if j = i then true else listed.getD j false) :=
        List.countP_congr fun x _ => by rw [getD_set_i (by omega)]
      simp only [Bool.true_and, if_true] at h1
      omega
    have hclosed' := closed_set hs hc hi
    have htl' : ∀ t, n ≤ t → (listed.setIfInBounds i true).getD t false = false := fun t ht => by
      rw [getD_set_ne false (by omega)]; exact htl t ht
    have hsi : s ≤ i := by
      rcases Nat.lt_or_ge i s with h | h
      · rw [hlo i h] at hif; cases hif
      · exact h
    have hlo' : ∀ t, t < s → (listed.setIfInBounds i true).getD t false = true := fun t ht => by
      rw [getD_set_ne false (by omega)]; exact hlo t ht
    have hsl := fun cs b => Region.noSelect_spec hsel i oi cs b hoi
    unfold wpOp
    simp only [hoi]
    rw [wanted_of_get oi hget]
    by_cases hie : i = e
    · -- the ghost's own step
      subst hie
      obtain rfl : oi = oe := Option.some.inj (hoi.symm.trans hoe)
      rw [if_pos hgh.1]
      left
      refine gives_wp (R := fun u w' => ∃ g, u = mk g ∧ B g w') ?_ (fun v w' ⟨g, h1, h2⟩ => ?_)
      · unfold gives
        rw [execOp_of_get oi hsl hget]
        exact hgh.2 w hS
      · subst h1
        have hput' : (fill ops vals (fun j => listed.getD j false) a0 n).put oi.dst (mk g) = fill ops (fun j => if j = i then mk g else vals j) (fun j => (listed.setIfInBounds i true).getD j false) a0 n := by
          have hd : oi.dst = dstOf ops i := by simp [dstOf, hoi]
          have e0 : fill ops vals (fun j => listed.getD j false) a0 n = fill ops (fun j => if j = i then mk g else vals j) (fun j => listed.getD j false) a0 n := fill_vals_L _ _ _ a0 n (fun j _ hl => by
            by_cases hji : j = i
            · subst hji; rw [hif] at hl; cases hl
            · rw [if_neg hji])
          rw [e0, hd]
          have h3 := fill_put (fun j => if j = i then mk g else vals j) (fun j => listed.getD j false) a0 i hif (fun j hij hl d hdi hdj => by
            obtain ⟨oj, hoj, hdj'⟩ := hdst j d hdj
            have := tempsB_spec hM hoi hoj (by omega) hdj' (.inr (by rw [hd]; exact hdi))
            rw [show max i j = j by omega, show min i j = i by omega] at this
            exact hno j hl this) n hin
          simp only [if_true] at h3
          rw [h3]
          exact fill_congr _ _ _ a0 n (fun j _ => by rw [getD_set_i (by omega)])
        rw [hput']
        refine wpAny_seg (P := P) (Q := Q) (ops := ops) (S := fun _ => B g) (s := s) hB0 (fun j => if j = i then mk g else vals j) a0 (fun t => decide (t < s) || decide (t = i)) (fun k o h1 h2 ho => ?_) (fun w1 hw1 => htail g w1 hw1) c _ w' (by simpa using hs) hclosed' htl' (fun t ht => ?_) hcount' h2
        · simp only [Bool.or_eq_false_iff, decide_eq_false_iff_not] at h1
          rw [if_neg h1.2]
          exact (hok k o (by omega) h2 h1.2 ho).2 g
        · simp only [Bool.or_eq_true, decide_eq_true_eq] at ht
          rcases ht with ht | ht
          · exact hlo' t ht
          · subst ht; rw [getD_set_i (by omega)]; simp
    · have hle' : (listed.setIfInBounds i true).getD e false = false := by rw [getD_set_ne false (fun h => hie h)]; exact hle
      have hfin : ∀ w', A w' → wpAny P .any ops Q (c + (ops.size - n)) (listed.setIfInBounds i true) ((fill ops vals (fun j => listed.getD j false) a0 n).put oi.dst (vals i)) w' := fun w' hS' => by
        rw [hput]
        exact ih (listed.setIfInBounds i true) w' (by simpa using hs) hclosed' htl' hlo' hle' hcount' hS'
      rcases (hok i oi hsi hin hie hoi).1 with ⟨hw, hg⟩ | ⟨hw, hv, _⟩
      · rw [if_pos hw]
        left
        have := hg 0 (Nat.le_refl _) (Nat.le_refl _) w hS
        refine gives_wp (R := fun u w' => u = vals i ∧ A w') ?_ (fun v w' ⟨h1, h2⟩ => by subst h1; exact hfin w' h2)
        unfold gives
        rw [execOp_of_get oi hsl hget]
        exact this
      · rw [if_neg (by rw [hw]; simp)]
        have := hfin w hS
        rw [hv] at this
        exact this

/-- The values that stand. -/
def stand (ops : Array Oper) (a : Act) (j : Nat) : Value := match dstOf ops j with | some d => a.tmps.getD d undef | none => undef
theorem put_stand (a : Act) (d : Tmp) : a.put (some d) (a.tmps.getD d undef) = a := by
  have : a.tmps.setIfInBounds d (a.tmps.getD d undef) = a.tmps := by
    apply Array.ext_getElem?
    intro i
    rw [Array.getElem?_setIfInBounds]
    split
    · rename_i h; subst h
      split
      · rename_i h2; simp [h2]
      · rename_i h2; simp [Array.getElem?_eq_none (Nat.le_of_not_lt h2)]
    · rfl
  show { a with tmps := a.tmps.setIfInBounds d (a.tmps.getD d undef) } = a
  rw [this]
theorem fill_stand (a : Act) : ∀ m, fill ops (stand ops a) (fun _ => true) a m = a
  | 0 => rfl
  | m + 1 => by
    rw [fill_succ, fill_stand a m]
    simp only [if_true]
    unfold stand
    cases dstOf ops m with
    | none => rfl
    | some d => exact put_stand a d
theorem region_at {id : Nat} {l : List Oper} {a : Act} {w : World} (hm : P.follows .mixedOrders = true) (h : At P l.toArray Q 0 a w.drew) : (Code.region id l.toArray true).wp P Q a w := by
  refine wp_region_any hm ?_
  have hz : ∀ j, (Array.replicate l.toArray.size false).getD j false = false := fun j => by
    rcases Nat.lt_or_ge j l.toArray.size with h | h
    · simp at h; simp [h]
    · simp at h; simp [h]
  have := h (Array.replicate l.toArray.size false) (by simp) (fun j oj _ hl => by rw [hz] at hl; cases hl) (fun j _ => by rw [hz]; simp)
  simpa using this
theorem at_end {n : Nat} {a : Act} {w : World} (hn : ops.size ≤ n) (h : Q .normal a w) : At P ops Q n a w := by
  intro listed hs hc hl
  rw [Nat.sub_eq_zero_of_le hn]
  refine ⟨?_, h⟩
  refine List.eq_nil_iff_forall_not_mem.2 fun i hi => ?_
  obtain ⟨hun, oi, hoi, _⟩ := mem_ready.1 hi
  have li := (Array.getElem?_eq_some_iff.1 hoi).1
  rw [getD_ft (by omega), hl i li] at hun
  simp at hun; omega
/-- A stage of a region: the operations from s up to n, by phases. -/
theorem at_stage {s : Nat} {a : Act} {w : World} (n : Nat) (ph : Nat → Nat × Nat × Nat) (S : Nat → World → Prop) (hB : phS (Region.before ops) ops s n ph = true) (hz : (List.range s).all (fun j => !isEff ph j) = true)
    (h0 : S 0 w) (h : wpPh P ops S ph (fun a' => ∀ w', S ((List.range n).countP (isEff ph)) w' → At P ops Q n a' w') s ((ops.toList.take n).drop s) a) : At P ops Q s a w := by
  intro listed hs hc hl
  have hB' := hB
  unfold phS at hB'
  simp only [Bool.and_eq_true, decide_eq_true_eq] at hB'
  have hn : n ≤ ops.size := hB'.1.1.1.1.1.2
  have hsn : s ≤ n := hB'.2
  have hlen : ((ops.toList.take n).drop s).length = n - s := by simp; omega
  obtain ⟨vals, e1, e2, e3⟩ := vals_of_wpPh (ops := ops) a ((ops.toList.take n).drop s) s a (stand ops a) (fun j hj => by
    rw [hlen] at hj
    rw [List.getElem?_drop, List.getElem?_take, if_pos (by omega)]; simp) (fill_stand a s).symm h
  rw [hlen, show s + (n - s) = n by omega] at e3
  have efs : fill ops vals (fun _ => true) a s = a := (fill_vals vals (stand ops a) _ a s e1).trans (fill_stand a s)
  have hmask : ∀ j, j < n → listed.getD j false = decide (j < s) := fun j hj => hl j (by omega)
  have key := wpAny_seg (P := P) (Q := Q) (ops := ops) (s := s) hB vals a (fun t => decide (t < s)) (fun i o h1 h2 ho => e2 i o (by simpa using h1) (by rw [hlen]; omega) ho) e3 (n - s) listed w hs hc
    (fun t ht => by
      rcases Nat.lt_or_ge t ops.size with h' | h'
      · rw [hl t h']; simp; omega
      · simp [Array.getElem?_eq_none (show listed.size ≤ t by omega)])
    (fun t ht => by have ht := of_decide_eq_true ht; rw [hl t (by omega)]; simp [ht])
    (by
      have h2 : ∀ m, m ≤ n → (List.range m).countP (fun j => !listed.getD j false) = m - s := by
        intro m
        induction m with
        | zero => intro _; simp
        | succ m ih =>
          intro hm
          rw [List.range_succ, List.countP_append, ih (by omega)]
          simp only [List.countP_cons, List.countP_nil, hmask m (by omega)]
          by_cases hms : m < s
          · simp [hms]; omega
          · simp [hms]; omega
      exact h2 n (Nat.le_refl _))
    (by
      have : (List.range n).countP (fun j => isEff ph j && listed.getD j false) = 0 := List.countP_eq_zero.2 fun j hj => by
        rw [hmask j (List.mem_range.1 hj)]
        by_cases hjs : j < s
        · have := List.all_eq_true.1 hz j (List.mem_range.2 hjs)
          simp at this; simp [this]
        · simp [hjs]
      rw [this]; exact h0)
  have ef : fill ops vals (fun j => listed.getD j false) a n = a := by
    rw [fill_congr vals (fun j => listed.getD j false) (fun j => decide (j < s)) a n hmask]
    have := fill_lt (ops := ops) vals a s (n - s)
    rw [show s + (n - s) = n by omega] at this
    rw [this]; exact efs
  rw [ef, show n - s + (ops.size - n) = ops.size - s by omega] at key
  exact key

/-- **A REGION THAT DRAWS ITS ORDER, WALKED IN THE ORDER OF ITS TEXT.** -/
theorem wp_region_ph {id : Nat} {l : List Oper} {a : Act} {w : World} (n : Nat) (ph : Nat → Nat × Nat × Nat) (S : Nat → World → Prop) (hm : P.follows .mixedOrders = true) (hB : phB l.toArray n ph = true)
    (h0 : S 0 { w with drawn := w.drawn + 1 })
    (h : wpPh P l.toArray S ph (fun a' => ∀ w', S ((List.range n).countP (isEff ph)) w' → wpList P l.toArray Q (l.drop n) a' w') 0 (l.take n) a) : (Code.region id l.toArray true).wp P Q a w := by
  have hn : n ≤ l.length := by
    unfold phB phB' at hB
    simp only [Bool.and_eq_true, decide_eq_true_eq] at hB
    simpa using hB.1.1.1.1.2
  obtain ⟨vals, _, e2, e3⟩ := vals_of_wpPh (ops := l.toArray) a (l.take n) 0 a (fun _ => undef) (fun j hj => by
    have : j < n := by simp at hj; omega
    simp [this]) rfl h
  have hlen : (l.take n).length = n := by simp; omega
  rw [hlen, Nat.zero_add] at e3
  refine wp_region_any hm ?_
  have hz : ∀ j, (Array.replicate l.toArray.size false).getD j false = false := fun j => by
    rcases Nat.lt_or_ge j l.toArray.size with h | h
    · simp at h; simp [h]
    · simp at h; simp [h]
  have H := wpAny_head (P := P) (Q := Q) (ops := l.toArray) hB vals a (fun i o hi ho => e2 i o (Nat.zero_le _) (by rw [hlen]; omega) ho) (fun w' hw' => by simpa using e3 w' hw')
    n (Array.replicate l.toArray.size false) { w with drawn := w.drawn + 1 } (by simp) (fun j oj _ hl => by rw [hz] at hl; cases hl) (fun t _ => hz t)
    (by
      have : (List.range n).countP (fun j => !(Array.replicate l.toArray.size false).getD j false) = (List.range n).length := List.countP_eq_length.2 fun j _ => by rw [hz]; rfl
      rw [this]; simp)
    (by
      have : (List.range n).countP (fun j => isEff ph j && (Array.replicate l.toArray.size false).getD j false) = 0 := List.countP_eq_zero.2 fun j _ => by rw [hz]; simp
      rw [this]; exact h0)
  have ef : ∀ m, fill l.toArray vals (fun j => (Array.replicate l.toArray.size false).getD j false) a m = a := by
    intro m
    induction m with
    | zero => rfl
    | succ m ih => unfold fill; rw [if_neg (by rw [hz]; simp)]; exact ih
  rw [ef] at H
  have : n + (l.toArray.size - n) = l.toArray.size := by simp; omega
  rw [this] at H
  exact H

/-! ### The steps of a walk -/
/-- v is returned, and the world behind meets S. -/
def Gave (v : Value) (S : World → Prop) (e : Ending) (w : World) : Prop := e = .returned v ∧ S w
def givesVUpon (P : Program) (v : Value) (S : World → Prop) : Result Next → Prop
  | .ok (.value u) w' => u = v ∧ S w'
  | .ok .skip w' => undef = v ∧ S w'
  | .ok (.enter f args) w' => Calls P f args w' (Gave v S)
  | _ => False
def givesV (P : Program) (o : Oper) (a : Act) (w : World) (v : Value) (S : World → Prop) : Prop := givesVUpon P v S ((execOp a.eval o).run P w)
theorem givesVUpon_value (v u : Value) (S : World → Prop) (w' : World) : givesVUpon P v S (.ok (.value u) w') = (u = v ∧ S w') := rfl
theorem givesVUpon_skip (v : Value) (S : World → Prop) (w' : World) : givesVUpon P v S (.ok .skip w') = (undef = v ∧ S w') := rfl
theorem givesVUpon_enter (v : Value) (S : World → Prop) (f : FuncId) (args : Array Value) (w' : World) : givesVUpon P v S (.ok (.enter f args) w') = Calls P f args w' (Gave v S) := rfl
attribute [go_sem] givesV givesVUpon_value givesVUpon_skip givesVUpon_enter
theorem givesV_gives {o : Oper} {a : Act} {w : World} {v : Value} {S : World → Prop} (h : givesV P o a w v S) : gives P o a w fun u w' => u = v ∧ S w' := by
  unfold givesV at h
  unfold gives
  generalize (execOp a.eval o).run P w = r at *
  cases r with
  | ok x w' =>
    cases x <;> simp only [givesVUpon] at h <;> simp only [givesUpon]
    case value u => exact h
    case skip => exact h
    case enter f args => exact h.mono fun e w'' ⟨he, hs⟩ => ⟨v, he, rfl, hs⟩
  | halt x w' => simp only [givesVUpon] at h

theorem wpPh_nil {S : Nat → World → Prop} {ph : Nat → Nat × Nat × Nat} {L : Act → Prop} {i : Nat} {a : Act} (h : L a) : wpPh P ops S ph L i [] a := h
/-- One operation, of a region in which one condition S holds all the time. -/
theorem wpPh_op {S : World → Prop} {L : Act → Prop} {i : Nat} {a : Act} {o : Oper} {rest : List Oper} {v : Value}
    (h : ∀ w, S w → if Region.wanted o (yielded ops a.tmps) then givesV P o a w v S else undef = v)
    (hr : wpPh P ops (fun _ => S) (fun _ => (0, 0, 0)) L (i + 1) rest (a.put o.dst v)) (w0 : World) (h0 : S w0) : wpPh P ops (fun _ => S) (fun _ => (0, 0, 0)) L i (o :: rest) a := by
  refine ⟨v, ?_, hr⟩
  by_cases hw : Region.wanted o (yielded ops a.tmps) = true
  · left
    refine ⟨hw, fun k _ _ w hS => ?_⟩
    have := h w hS
    rw [if_pos hw] at this
    exact givesV_gives this
  · right
    have := h w0 h0
    rw [if_neg hw] at this
    exact ⟨by simpa using hw, this.symm, rfl⟩

/-- A condition that growth leaves as it is. -/
def Mono (S : Nat → World → Prop) : Prop := ∀ k w w', S k w → RowKit.Below w.heap.size w w' → S k w'
def Mono1 (A : World → Prop) : Prop := ∀ w w', A w → RowKit.Below w.heap.size w w' → A w'
def S2 (A B : World → Prop) : Nat → World → Prop
  | 0 => A
  | _ => B
def S3 (A B C : World → Prop) : Nat → World → Prop
  | 0 => A
  | 1 => B
  | _ => C
theorem S2_mono {A B : World → Prop} (hA : Mono1 A) (hB : Mono1 B) : Mono (S2 A B) := fun k w w' h hb => match k, h with
  | 0, h => hA w w' h hb
  | _ + 1, h => hB w w' h hb
theorem S3_mono {A B C : World → Prop} (hA : Mono1 A) (hB : Mono1 B) (hC : Mono1 C) : Mono (S3 A B C) := fun k w w' h hb => match k, h with
  | 0, h => hA w w' h hb
  | 1, h => hB w w' h hb
  | _ + 2, h => hC w w' h hb
/-- One operation that reads, reckons or only makes memory, at the phases from lo to hi. -/
theorem wpPh_q {S : Nat → World → Prop} {ph : Nat → Nat × Nat × Nat} {L : Act → Prop} {i : Nat} {a : Act} {o : Oper} {rest : List Oper} {v : Value} (hm : Mono S) (lo hi : Nat) (hph : ph i = (lo, hi, 0))
    (hw : Region.wanted o (yielded ops a.tmps) = true) (h : ∀ k, lo ≤ k → k ≤ hi → ∀ w, S k w → givesV P o a w v (fun w' => RowKit.Below w.heap.size w w')) (hr : wpPh P ops S ph L (i + 1) rest (a.put o.dst v)) : wpPh P ops S ph L i (o :: rest) a := by
  refine ⟨v, .inl ⟨hw, fun k h1 h2 w hS => ?_⟩, hr⟩
  rw [hph] at h1 h2 ⊢
  have := givesV_gives (h k h1 h2 w hS)
  unfold gives at this ⊢
  unfold givesUpon at this ⊢
  revert this
  split
  · rintro ⟨rfl, hb⟩; exact ⟨rfl, hm k _ _ hS hb⟩
  · rintro ⟨rfl, hb⟩; exact ⟨rfl, hm k _ _ hS hb⟩
  · intro hc
    exact hc.mono fun e w' ⟨u, he, hu, hb⟩ => ⟨u, he, hu, hm k _ _ hS hb⟩
  · exact id
/-- One operation that steps from phase k to the next. -/
theorem wpPh_e {S : Nat → World → Prop} {ph : Nat → Nat × Nat × Nat} {L : Act → Prop} {i : Nat} {a : Act} {o : Oper} {rest : List Oper} {v : Value} (k : Nat) (hph : ph i = (k, k, 1))
    (hw : Region.wanted o (yielded ops a.tmps) = true) (h : ∀ w, S k w → givesV P o a w v (S (k + 1))) (hr : wpPh P ops S ph L (i + 1) rest (a.put o.dst v)) : wpPh P ops S ph L i (o :: rest) a := by
  refine ⟨v, .inl ⟨hw, fun k' h1 h2 w hS => ?_⟩, hr⟩
  rw [hph] at h1 h2 ⊢
  obtain rfl : k' = k := Nat.le_antisymm h2 h1
  exact givesV_gives (h w hS)
/-- One operation whose guard says no. -/
theorem wpPh_no {S : Nat → World → Prop} {ph : Nat → Nat × Nat × Nat} {L : Act → Prop} {i : Nat} {a : Act} {o : Oper} {rest : List Oper} (hph : (ph i).2.2 = 0)
    (hw : Region.wanted o (yielded ops a.tmps) = false) (hr : wpPh P ops S ph L (i + 1) rest (a.put o.dst undef)) : wpPh P ops S ph L i (o :: rest) a :=
  ⟨undef, .inr ⟨hw, rfl, hph⟩, hr⟩


theorem upon_then {o : Oper} {a : Act} {K X : Act → World → Prop} (r : Result Next) (h : o.upon P a K (Exit.then X Q) r) : o.upon P a K Q r := by
  cases r with
  | ok x w' => cases x <;> exact h
  | halt x w' => cases x <;> exact h
/-- One operation of a region, behind which all else stands, by the walk's own steps. -/
theorem at_op {s : Nat} {o : Oper} {a : Act} {w : World} (ho : ops[s]? = some o) (hB : phS (Region.before ops) ops s (s + 1) (fun _ => (0, 0, 0)) = true)
    (h : wpList P ops (Exit.then (fun a' w' => At P ops Q (s + 1) a' w') Q) [o] a w) : At P ops Q s a w := by
  intro listed hs hc hl
  have li := (Array.getElem?_eq_some_iff.1 ho).1
  unfold phS at hB
  simp only [Bool.and_eq_true, decide_eq_true_eq] at hB
  obtain ⟨⟨⟨⟨⟨⟨hsel, hn⟩, hE⟩, hT⟩, hM⟩, hP⟩, _⟩ := hB
  have hsf : listed.getD s false = false := by rw [hl s li]; simp
  have hrdy : s ∈ Region.ready .any ops listed := by
    refine mem_ready.2 ⟨by rw [getD_ft (by omega)]; exact hsf, o, ho, fun e he hb => ?_⟩
    have h1 := List.all_eq_true.1 hE s (List.mem_range.2 li)
    simp only [ho] at h1
    have h2 := Array.all_eq_true_iff_forall_mem.1 h1 e he
    simp only [hb, Bool.not_true, Bool.false_or, decide_eq_true_eq] at h2
    rw [hl e.on (by omega)]; simp [h2]
  rw [show ops.size - s = (ops.size - (s + 1)) + 1 by omega]
  refine ⟨fun hne => (by rw [hne] at hrdy; cases hrdy), fun i hi => ?_⟩
  have his : i = s := by
    obtain ⟨hun, oi, hoi, _⟩ := mem_ready.1 hi
    have lii := (Array.getElem?_eq_some_iff.1 hoi).1
    have hif : listed.getD i false = false := by rw [← getD_ft (by omega)]; exact hun
    rw [hl i lii] at hif
    simp only [decide_eq_false_iff_not, Nat.not_lt] at hif
    rcases Nat.lt_or_ge s i with h1 | h1
    · have h2 := List.all_eq_true.1 hT i (List.mem_range.2 lii)
      rcases or_t h2 with h3 | h3
      · have := of_decide_eq_true h3; omega
      · have h4 := anc_ready hc hi s (List.all_eq_true.1 h3 s (List.mem_range.2 (by omega)))
        rw [hsf] at h4; cases h4
    · omega
  subst his
  have hK : ∀ a' w', At P ops Q (i + 1) a' w' → wpAny P .any ops Q (ops.size - (i + 1)) (listed.setIfInBounds i true) a' w' := fun a' w' hA =>
    hA _ (by simpa using hs) (closed_set hs hc hi) (fun j hj => by
      rw [getD_set_i (by omega)]
      by_cases hji : j = i
      · subst hji; simp
      · rw [if_neg hji, hl j hj]
        by_cases h1 : j < i
        · simp [h1]; omega
        · simp [h1]; omega)
  unfold wpOp
  simp only [ho]
  unfold wpList at h
  by_cases hw : Region.wanted o (yielded ops a.tmps) = true
  · rw [if_pos hw] at h ⊢
    rcases h with h | ⟨h1, h2⟩
    · left
      unfold Oper.wp at h ⊢
      have h5 := upon_then _ h
      have h6 : o.wp P a w (wpList P ops (Exit.then (fun a' w' => At P ops Q (i + 1) a' w') Q) []) Q := h5
      exact Oper.wp_mono (fun a' w' hA => hK a' w' hA) h6
    · exact .inr ⟨h1, h2⟩
  · rw [if_neg hw] at h ⊢
    exact hK _ _ h
/-- A stage of operations that read, reckon or only make memory. -/
theorem at_quiet {s : Nat} {a : Act} {w : World} (n : Nat) (hB : phS (Region.before ops) ops s n (fun _ => (0, 0, 0)) = true)
    (h : wpPh P ops (fun _ w1 => RowKit.Below w.heap.size w w1) (fun _ => (0, 0, 0)) (fun a' => ∀ w', RowKit.Below w.heap.size w w' → At P ops Q n a' w') s ((ops.toList.take n).drop s) a) : At P ops Q s a w :=
  at_stage n (fun _ => (0, 0, 0)) (fun _ w1 => RowKit.Below w.heap.size w w1) hB (by simp [isEff]) (RowKit.Below.refl _ _) h
theorem wpPh_g {W : World} {L : Act → Prop} {i : Nat} {a : Act} {o : Oper} {rest : List Oper} {v : Value}
    (h : ∀ w, RowKit.Below W.heap.size W w → if Region.wanted o (yielded ops a.tmps) then givesV P o a w v (fun w' => RowKit.Below w.heap.size w w') else undef = v)
    (hr : wpPh P ops (fun _ w1 => RowKit.Below W.heap.size W w1) (fun _ => (0, 0, 0)) L (i + 1) rest (a.put o.dst v)) : wpPh P ops (fun _ w1 => RowKit.Below W.heap.size W w1) (fun _ => (0, 0, 0)) L i (o :: rest) a := by
  by_cases hw : Region.wanted o (yielded ops a.tmps) = true
  · exact wpPh_q (fun _ _ _ h1 h2 => h1.trans (h2.mono h1.size)) 0 0 rfl hw (fun k _ _ w1 hb => by have := h w1 hb; rwa [if_pos hw] at this) hr
  · have := h W (RowKit.Below.refl _ _)
    rw [if_neg hw] at this
    subst this
    exact wpPh_no rfl (by simpa using hw) hr

theorem dst_spec0 {j : Nat} {t : Tmp} (h : dstOf ops j = some t) : ∃ oj, ops[j]? = some oj ∧ oj.dst = some t := by
  unfold dstOf at h
  cases hj : ops[j]? with
  | none => rw [hj] at h; cases h
  | some oj => rw [hj] at h; exact ⟨oj, rfl, h⟩
theorem gives_mono {o : Oper} {a : Act} {w : World} {R R' : Value → World → Prop} (h : gives P o a w R) (hr : ∀ u w', R u w' → R' u w') : gives P o a w R' := by
  unfold gives givesUpon at h ⊢
  revert h
  split
  · exact hr _ _
  · exact hr _ _
  · intro hc; exact hc.mono fun e w' ⟨u, he, hu⟩ => ⟨u, he, hr _ _ hu⟩
  · exact id

/-- A stage of quiet operations, and one (number e), none of which waits for another of them, whose value is known of it alone: it is mk g, for some g. -/
def wpGh (P : Program) (ops : Array Oper) (W : World) {γ : Type} (mk : γ → Value) (G : γ → World → Prop) (e : Nat) (L : Act → Prop) : Nat → List Oper → Act → Prop
  | _, [], a => L a
  | i, o :: rest, a =>
    (i = e ∧ (Region.wanted o (yielded ops a.tmps) = true ∧ ∀ w, RowKit.Below W.heap.size W w → gives P o a w fun u w' => ∃ g, u = mk g ∧ RowKit.Below w.heap.size w w' ∧ G g w') ∧ wpGh P ops W mk G e L (i + 1) rest a) ∨
    (i ≠ e ∧ ∃ v, ((Region.wanted o (yielded ops a.tmps) = true ∧ ∀ w, RowKit.Below W.heap.size W w → gives P o a w fun u w' => u = v ∧ RowKit.Below w.heap.size w w') ∨ (Region.wanted o (yielded ops a.tmps) = false ∧ v = undef)) ∧ wpGh P ops W mk G e L (i + 1) rest (a.put o.dst v))
def noLookB (ops : Array Oper) (s n e : Nat) : Bool :=
  (List.range n).all fun i => decide (i < s) || i == e || match ops[i]?, dstOf ops e with
    | some o, some d => !(o.looksAt ops).contains d && o.dst != some d
    | _, _ => false
theorem vals_of_wpGh {W : World} {γ : Type} {mk : γ → Value} {G : γ → World → Prop} {e : Nat} {Lq : Act → Prop} (a0 : Act) : ∀ (l : List Oper) (i : Nat) (a : Act) (vals0 : Nat → Value),
    (∀ j, j < l.length → l[j]? = ops[i + j]?) → a = fill ops vals0 (fun _ => true) a0 i → wpGh P ops W mk G e Lq i l a →
    ∃ vals : Nat → Value, (∀ j, j < i → vals j = vals0 j) ∧
      (∀ j o, i ≤ j → j < i + l.length → ops[j]? = some o → j ≠ e → (Region.wanted o (yielded ops (fill ops vals (fun _ => true) a0 j).tmps) = true ∧ ∀ w, RowKit.Below W.heap.size W w → gives P o (fill ops vals (fun _ => true) a0 j) w fun u w' => u = vals j ∧ RowKit.Below w.heap.size w w') ∨
        (Region.wanted o (yielded ops (fill ops vals (fun _ => true) a0 j).tmps) = false ∧ vals j = undef)) ∧
      (∀ o, i ≤ e → e < i + l.length → ops[e]? = some o → Region.wanted o (yielded ops (fill ops vals (fun _ => true) a0 e).tmps) = true ∧ (∀ w, RowKit.Below W.heap.size W w → gives P o (fill ops vals (fun _ => true) a0 e) w fun u w' => ∃ g, u = mk g ∧ RowKit.Below w.heap.size w w' ∧ G g w')) ∧
      Lq (fill ops vals (fun _ => true) a0 (i + l.length))
  | [], i, a, vals0, _, ha, h => ⟨vals0, fun _ _ => rfl, fun j o h1 h2 => (by simp at h2; omega), fun o h1 h2 => (by simp at h2; omega), by subst ha; exact h⟩
  | o :: l, i, a, vals0, hl, ha, h => by
    have h0 : ops[i]? = some o := by simpa using (hl 0 (by simp)).symm
    have main : ∀ v, wpGh P ops W mk G e Lq (i + 1) l (a.put o.dst v) → ∃ vals : Nat → Value, (∀ j, j < i + 1 → vals j = if j = i then v else vals0 j) ∧ fill ops vals (fun _ => true) a0 i = a ∧
        (∀ j o, i + 1 ≤ j → j < (i + 1) + l.length → ops[j]? = some o → j ≠ e → (Region.wanted o (yielded ops (fill ops vals (fun _ => true) a0 j).tmps) = true ∧ ∀ w, RowKit.Below W.heap.size W w → gives P o (fill ops vals (fun _ => true) a0 j) w fun u w' => u = vals j ∧ RowKit.Below w.heap.size w w') ∨
          (Region.wanted o (yielded ops (fill ops vals (fun _ => true) a0 j).tmps) = false ∧ vals j = undef)) ∧
        (∀ o, i + 1 ≤ e → e < (i + 1) + l.length → ops[e]? = some o → Region.wanted o (yielded ops (fill ops vals (fun _ => true) a0 e).tmps) = true ∧ (∀ w, RowKit.Below W.heap.size W w → gives P o (fill ops vals (fun _ => true) a0 e) w fun u w' => ∃ g, u = mk g ∧ RowKit.Below w.heap.size w w' ∧ G g w')) ∧
        Lq (fill ops vals (fun _ => true) a0 ((i + 1) + l.length)) := by
      intro v h'
      obtain ⟨vals, e1, e2, e2', e3⟩ := vals_of_wpGh a0 l (i + 1) (a.put o.dst v) (fun j => if j = i then v else vals0 j)
        (fun j hj => by have := hl (j + 1) (by simp; omega); simpa [Nat.add_assoc, Nat.add_comm 1 j] using this)
        (by
          subst ha
          rw [fill_succ]
          simp only [if_true]
          rw [fill_vals (fun j => if j = i then v else vals0 j) vals0 _ a0 i (fun j hj => if_neg (by omega))]
          simp [dstOf, h0]) h'
      exact ⟨vals, e1, (fill_vals _ _ _ a0 i (fun j hj => by rw [e1 j (by omega), if_neg (by omega)])).trans ha.symm, e2, e2', e3⟩
    rcases h with ⟨hie, ⟨hw, hg⟩, hr⟩ | ⟨hie, v, hx, hr⟩
    · subst hie
      have hst : a.put o.dst (match o.dst with | some d => a.tmps.getD d undef | none => undef) = a := by
        cases hd : o.dst with
        | none => rfl
        | some d => exact put_stand a d
      obtain ⟨vals, e1, ef, e2, e2', e3⟩ := main (match o.dst with | some d => a.tmps.getD d undef | none => undef) (by rw [hst]; exact hr)
      refine ⟨vals, fun j hj => by rw [e1 j (by omega), if_neg (by omega)], fun j o' h1 h2 ho hje => ?_, fun o' h1 h2 ho => ?_, by simpa [Nat.add_assoc, Nat.add_comm 1] using e3⟩
      · exact e2 j o' (by omega) (by simp only [List.length_cons] at h2; omega) ho hje
      · obtain rfl : o' = o := Option.some.inj (ho.symm.trans h0)
        rw [ef]; exact ⟨hw, hg⟩
    · obtain ⟨vals, e1, ef, e2, e2', e3⟩ := main v hr
      have ei : vals i = v := by rw [e1 i (by omega)]; simp
      refine ⟨vals, fun j hj => by rw [e1 j (by omega), if_neg (by omega)], fun j o' h1 h2 ho hje => ?_, fun o' h1 h2 ho => ?_, by simpa [Nat.add_assoc, Nat.add_comm 1] using e3⟩
      · by_cases hj : j = i
        · subst hj
          obtain rfl : o' = o := Option.some.inj (ho.symm.trans h0)
          rw [ef, ei]; exact hx
        · exact e2 j o' (by omega) (by simp only [List.length_cons] at h2; omega) ho hje
      · exact e2' o' (by omega) (by simp only [List.length_cons] at h2; omega) ho

theorem put_comm (a : Act) (d d' : Tmp) (v v' : Value) (h : d ≠ d') : (a.put (some d) v).put (some d') v' = (a.put (some d') v').put (some d) v := by
  unfold Act.put
  simp only [Act.mk.injEq, and_true]
  exact (Array.setIfInBounds_comm v v' h)
theorem put_put (a : Act) (d : Tmp) (v v' : Value) : (a.put (some d) v).put (some d) v' = a.put (some d) v' := by
  unfold Act.put
  simp

theorem fill_ghost {vals : Nat → Value} {u : Value} {e : Nat} {d : Tmp} (a0 : Act) (hd : dstOf ops e = some d) : ∀ m, e < m → (∀ j, e < j → j < m → dstOf ops j ≠ some d) →
    fill ops (fun j => if j = e then u else vals j) (fun _ => true) a0 m = (fill ops vals (fun _ => true) a0 m).put (some d) u
  | 0, h, _ => by omega
  | m + 1, h, hj => by
    rw [fill_succ, fill_succ]
    simp only [if_true]
    by_cases hme : m = e
    · subst hme
      rw [if_pos rfl, hd, fill_vals (fun j => if j = m then u else vals j) vals _ a0 m (fun j hj => if_neg (by omega)), put_put]
    · rw [if_neg hme, fill_ghost a0 hd m (by omega) (fun j h1 h2 => hj j h1 (by omega))]
      cases hdm : dstOf ops m with
      | none => rfl
      | some d' => exact put_comm _ _ _ _ _ (fun h => hj m (by omega) (by omega) (by rw [hdm, h]))

theorem at_ghost {s : Nat} {a : Act} {w : World} {γ : Type} (n e : Nat) (d : Tmp) (mk : γ → Value) (G : γ → World → Prop) (hG : ∀ g, Mono1 (G g)) (hB : phS (Region.before ops) ops s n (fun _ => (0, 0, 0)) = true)
    (hN : noLookB ops s n e = true) (hse : s ≤ e) (hen : e < n) (hd : dstOf ops e = some d)
    (h : wpGh P ops w mk G e (fun a' => ∀ g w', RowKit.Below w.heap.size w w' → G g w' → At P ops Q n (a'.put (some d) (mk g)) w') s ((ops.toList.take n).drop s) a) : At P ops Q s a w := by
  intro listed hs hc hl
  have hB' := hB
  unfold phS at hB'
  simp only [Bool.and_eq_true, decide_eq_true_eq] at hB'
  have hn : n ≤ ops.size := hB'.1.1.1.1.1.2
  have hsel := hB'.1.1.1.1.1.1
  have hsn : s ≤ n := hB'.2
  have hlen : ((ops.toList.take n).drop s).length = n - s := by simp; omega
  obtain ⟨oe, hoe, hde⟩ := dst_spec0 hd
  obtain ⟨vals, e1, e2, e2', e3⟩ := vals_of_wpGh (ops := ops) a ((ops.toList.take n).drop s) s a (stand ops a) (fun j hj => by
    rw [hlen] at hj
    rw [List.getElem?_drop, List.getElem?_take, if_pos (by omega)]; simp) (fill_stand a s).symm h
  rw [hlen, show s + (n - s) = n by omega] at e2 e2' e3
  have efs : fill ops vals (fun _ => true) a s = a := (fill_vals vals (stand ops a) _ a s e1).trans (fill_stand a s)
  have hmask : ∀ j, j < n → listed.getD j false = decide (j < s) := fun j hj => hl j (by omega)
  have hno : ∀ i o, s ≤ i → i < n → i ≠ e → ops[i]? = some o → d ∉ o.looksAt ops ∧ o.dst ≠ some d := by
    intro i o h1 h2 h3 ho
    have := List.all_eq_true.1 hN i (List.mem_range.2 h2)
    simp only [ho, hd, Bool.or_eq_true, decide_eq_true_eq, beq_iff_eq, Bool.and_eq_true, Bool.not_eq_true', bne_iff_ne] at this
    rcases this with (h4 | h4) | h4
    · omega
    · exact absurd h4 h3
    · exact ⟨by simpa using h4.1, h4.2⟩
  have hlastd : ∀ j, e < j → j < n → dstOf ops j ≠ some d := fun j h1 h2 hdj => by
    obtain ⟨oj, hoj, hdj'⟩ := dst_spec0 hdj
    exact (hno j oj (by omega) h2 (by omega) hoj).2 hdj'
  have hgets : ∀ g i o, s ≤ i → i < n → i ≠ e → ops[i]? = some o → ∀ t ∈ o.looksAt ops, (fill ops (fun j => if j = e then mk g else vals j) (fun _ => true) a i).tmps[t]? = (fill ops vals (fun _ => true) a i).tmps[t]? := by
    intro g i o h1 h2 h3 ho t ht
    have htd : t ≠ d := fun h => (hno i o h1 h2 h3 ho).1 (h ▸ ht)
    by_cases hei : e < i
    · rw [fill_ghost a hd i hei (fun j h4 h5 => hlastd j h4 (by omega)), put_get _ _ _ _ (by simpa using fun h => htd h.symm)]
    · rw [fill_vals _ vals _ a i (fun j hj => if_neg (by omega))]
  have key := wpAny_ghost (P := P) (Q := Q) (ops := ops) (A := fun w1 => RowKit.Below w.heap.size w w1) (B := fun g w1 => RowKit.Below w.heap.size w w1 ∧ G g w1) mk (s := s) (n := n) (e := e) hB hse hen hoe vals a
    (fun i o h1 h2 h3 ho => by
      have hsl := fun cs b => Region.noSelect_spec hsel i o cs b ho
      have hx := e2 i o h1 h2 ho h3
      refine ⟨?_, fun g => ?_⟩
      · rcases hx with ⟨hw, hg⟩ | ⟨hw, hv⟩
        · refine .inl ⟨hw, fun k _ _ w1 hb => ?_⟩
          exact gives_mono (hg w1 hb) (fun u w' ⟨h5, h6⟩ => ⟨h5, hb.trans (h6.mono hb.size)⟩)
        · exact .inr ⟨hw, hv, rfl⟩
      · have hgt := hgets g i o h1 h2 h3 ho
        unfold OpOk
        rw [wanted_of_get o hgt]
        rcases hx with ⟨hw, hg⟩ | ⟨hw, hv⟩
        · refine .inl ⟨hw, fun k _ _ w1 ⟨hb, hgg⟩ => ?_⟩
          have := hg w1 hb
          unfold gives at this ⊢
          rw [execOp_of_get o hsl hgt]
          exact gives_mono this (fun u w' ⟨h5, h6⟩ => ⟨h5, hb.trans (h6.mono hb.size), hG g _ _ hgg h6⟩)
        · exact .inr ⟨hw, hv, rfl⟩)
    (by
      obtain ⟨hw, hg⟩ := e2' oe hse (by omega) hoe
      exact ⟨hw, fun w1 hb => gives_mono (hg w1 hb) (fun u w' ⟨g, h5, h6, h7⟩ => ⟨g, h5, hb.trans (h6.mono hb.size), h7⟩)⟩)
    (fun g w1 ⟨hb, hgg⟩ => by
      rw [fill_ghost a hd n hen (fun j h1 h2 => hlastd j h1 h2)]
      exact e3 g w1 hb hgg) (n - s) listed w hs hc
    (fun t ht => by
      rcases Nat.lt_or_ge t ops.size with h' | h'
      · rw [hl t h']; simp; omega
      · simp [Array.getElem?_eq_none (show listed.size ≤ t by omega)])
    (fun t ht => by rw [hl t (by omega)]; simp [ht])
    (by rw [hl e (by omega)]; simp; omega)
    (by
      have h2 : ∀ m, m ≤ n → (List.range m).countP (fun j => !listed.getD j false) = m - s := by
        intro m
        induction m with
        | zero => intro _; simp
        | succ m ih =>
          intro hm
          rw [List.range_succ, List.countP_append, ih (by omega)]
          simp only [List.countP_cons, List.countP_nil, hmask m (by omega)]
          by_cases hms : m < s
          · simp [hms]; omega
          · simp [hms]; omega
      exact h2 n (Nat.le_refl _))
    (RowKit.Below.refl _ _)
  have ef : fill ops vals (fun j => listed.getD j false) a n = a := by
    rw [fill_congr vals (fun j => listed.getD j false) (fun j => decide (j < s)) a n hmask]
    have := fill_lt (ops := ops) vals a s (n - s)
    rw [show s + (n - s) = n by omega] at this
    rw [this]; exact efs
  rw [ef, show n - s + (ops.size - n) = ops.size - s by omega] at key
  exact key
theorem givesUpon_value (R : Value → World → Prop) (v : Value) (w' : World) : givesUpon P R (.ok (.value v) w') = R v w' := rfl
theorem givesUpon_enter (R : Value → World → Prop) (f : FuncId) (args : Array Value) (w' : World) : givesUpon P R (.ok (.enter f args) w') = Calls P f args w' fun e w'' => ∃ v, e = .returned v ∧ R v w'' := rfl
attribute [go_sem] gives givesUpon_value givesUpon_enter
theorem wpGh_nil {W : World} {γ : Type} {mk : γ → Value} {G : γ → World → Prop} {e : Nat} {L : Act → Prop} {i : Nat} {a : Act} (h : L a) : wpGh P ops W mk G e L i [] a := h
theorem wpGh_e {W : World} {γ : Type} {mk : γ → Value} {G : γ → World → Prop} {e : Nat} {L : Act → Prop} {a : Act} {o : Oper} {rest : List Oper} (hw : Region.wanted o (yielded ops a.tmps) = true)
    (h : ∀ w, RowKit.Below W.heap.size W w → gives P o a w fun u w' => ∃ g, u = mk g ∧ RowKit.Below w.heap.size w w' ∧ G g w') (hr : wpGh P ops W mk G e L (e + 1) rest a) : wpGh P ops W mk G e L e (o :: rest) a :=
  .inl ⟨rfl, ⟨hw, h⟩, hr⟩
theorem wpGh_g {W : World} {γ : Type} {mk : γ → Value} {G : γ → World → Prop} {e : Nat} {L : Act → Prop} {i : Nat} {a : Act} {o : Oper} {rest : List Oper} {v : Value} (hie : i ≠ e)
    (h : ∀ w, RowKit.Below W.heap.size W w → if Region.wanted o (yielded ops a.tmps) then givesV P o a w v (fun w' => RowKit.Below w.heap.size w w') else undef = v)
    (hr : wpGh P ops W mk G e L (i + 1) rest (a.put o.dst v)) : wpGh P ops W mk G e L i (o :: rest) a := by
  refine .inr ⟨hie, v, ?_, hr⟩
  by_cases hw : Region.wanted o (yielded ops a.tmps) = true
  · exact .inl ⟨hw, fun w1 hb => by have := h w1 hb; rw [if_pos hw] at this; exact givesV_gives this⟩
  · have := h W (RowKit.Below.refl _ _)
    rw [if_neg hw] at this
    exact .inr ⟨by simpa using hw, this.symm⟩

theorem dst_spec {j : Nat} {t : Tmp} (h : dstOf ops j = some t) : ∃ oj, ops[j]? = some oj ∧ oj.dst = some t := by
  unfold dstOf at h
  cases hj : ops[j]? with
  | none => rw [hj] at h; cases h
  | some oj => rw [hj] at h; exact ⟨oj, rfl, h⟩
/-- What a ready operation looks at is as in the canonical state. -/
theorem get_ready (hM : tempsB (Region.before ops) ops = true) {n : Nat} (vals : Nat → Value) (a0 : Act) {listed : Array Bool} (hc : Closed ops listed) {i : Nat} {oi : Oper}
    (hi : i ∈ Region.ready .any ops listed) (hoi : ops[i]? = some oi) (hif : listed.getD i false = false) (hin : i < n) {t : Tmp} (ht : t ∈ oi.looksAt ops) :
    (fill ops vals (fun j => listed.getD j false) a0 n).tmps[t]? = (fill ops vals (fun _ => true) a0 i).tmps[t]? := by
  have hno : ∀ j, listed.getD j false = true → anc ops j i = true → False := fun j hj h => by
    have := anc_listed hc j hj i h; rw [hif] at this; cases this
  have key : ∀ j, j < n → dstOf ops j = some t → listed.getD j false = decide (j < i) := by
    intro j hj hd
    obtain ⟨oj, hoj, hdj⟩ := dst_spec hd
    rcases Nat.lt_trichotomy j i with h1 | h1 | h1
    · have := tempsB_spec hM hoi hoj (by omega) hdj (.inl ht)
      rw [show max i j = i by omega, show min i j = j by omega] at this
      rw [anc_ready hc hi j this]; simp [h1]
    · subst h1; rw [hif]; simp
    · have := tempsB_spec hM hoi hoj (by omega) hdj (.inl ht)
      rw [show max i j = j by omega, show min i j = i by omega] at this
      cases hl : listed.getD j false with
      | true => exact (hno j hl this).elim
      | false => simp; omega
  rw [fill_get (ops := ops) vals (fun j => listed.getD j false) (fun j => decide (j < i)) a0 t n key]
  rw [show n = i + (n - i) by omega, fill_lt _ a0 i (n - i)]
theorem put_ready (hM : tempsB (Region.before ops) ops = true) {n : Nat} (vals : Nat → Value) (a0 : Act) {listed : Array Bool} (hc : Closed ops listed) {i : Nat} {oi : Oper}
    (hoi : ops[i]? = some oi) (hif : listed.getD i false = false) (hin : i < n) (hsz : i < listed.size) :
    (fill ops vals (fun j => listed.getD j false) a0 n).put oi.dst (vals i) = fill ops vals (fun j => (listed.setIfInBounds i true).getD j false) a0 n := by
  have hd : oi.dst = dstOf ops i := by simp [dstOf, hoi]
  rw [hd, fill_put vals (fun j => listed.getD j false) a0 i hif ?_ n hin]
  · exact fill_congr vals _ _ a0 n (fun j _ => by rw [getD_set_i hsz])
  · intro j hij hl d hdi hdj
    obtain ⟨oj, hoj, hdj'⟩ := dst_spec hdj
    have := tempsB_spec hM hoi hoj (by omega) hdj' (.inr (by rw [hd]; exact hdi))
    rw [show max i j = j by omega, show min i j = i by omega] at this
    have := anc_listed hc j hl i this; rw [hif] at this; cases this
theorem count_ready {n : Nat} {listed : Array Bool} {i c : Nat} (hif : listed.getD i false = false) (hin : i < n) (hsz : i < listed.size)
    (hcount : (List.range n).countP (fun j => !listed.getD j false) = c + 1) : (List.range n).countP (fun j => !(listed.setIfInBounds i true).getD j false) = c := by
  have h1 := countP_set (fun _ => true) (fun j => listed.getD j false) i hif n hin
  have h2 : ∀ p : Nat → Bool, (List.range n).countP (fun j => !p j) + (List.range n).countP p = n := fun p => by
    have := List.length_eq_countP_add_countP (p := p) (l := List.range n)
    simp only [List.length_range] at this
    have h3 : (List.range n).countP (fun j => !p j) = (List.range n).countP (fun a => decide ¬p a = true) := List.countP_congr fun x _ => by simp
    omega
  have h4 := h2 (fun j => listed.getD j false)
  have h5 := h2 (fun j => (listed.setIfInBounds i true).getD j false)
  have h6 : (List.range n).countP (fun j => (listed.setIfInBounds i true).getD j false) = (List.range n).countP (fun j => if j = i then true else listed.getD j false) :=
    List.countP_congr fun x _ => by rw [getD_set_i hsz]
  simp only [Bool.true_and, if_true] at h1
  omega
/-- The least of the head that is not listed may come up. -/
theorem least_ready {n : Nat} (hE : edgesB ops = true) (hn : n ≤ ops.size) {listed : Array Bool} (hs : listed.size = ops.size) : ∀ d i, i = d → i < n → listed.getD i false = false →
    ∃ k, k ∈ Region.ready .any ops listed ∧ k ≤ i := by
  intro d
  induction d using Nat.strongRecOn with
  | _ d ihd =>
    intro i hid hin hif
    have li : i < ops.size := by omega
    by_cases hr : i ∈ Region.ready .any ops listed
    · exact ⟨i, hr, Nat.le_refl _⟩
    · have hox : ops[i]? = some ops[i] := by simp [li]
      have : ∃ e ∈ ops[i].after, Region.binds .any e = true ∧ listed.getD e.on false = false := by
        refine Classical.byContradiction fun hno => hr (mem_ready.2 ⟨by rw [getD_ft (by omega)]; exact hif, _, hox, fun e he hb => ?_⟩)
        cases hx : listed.getD e.on false with
        | true => rfl
        | false => exact absurd ⟨e, he, hb, hx⟩ hno
      obtain ⟨e, he, hb, hx⟩ := this
      have h1 := List.all_eq_true.1 hE i (List.mem_range.2 li)
      simp only [hox] at h1
      have h2 := Array.all_eq_true_iff_forall_mem.1 h1 e he
      simp only [hb, Bool.not_true, Bool.false_or, decide_eq_true_eq] at h2
      obtain ⟨k, hk, hki⟩ := ihd e.on (by omega) e.on rfl (by omega) hx
      exact ⟨k, hk, by omega⟩

/-! ### Allocations beside calls: the pure operations [0, m), the allocations [m, n), the tail -/
/-- w' has all that w had. -/
abbrev Grows (w w' : World) : Prop := RowKit.Below w.heap.size w w'
structure AlOk (P : Program) (o : Oper) (a : Act) (mk : Nat → Value) (obj : Obj) : Prop where
  guard : o.guard = none
  run : ∀ w, (execOp a.eval o).run P w = .ok (.value (mk w.heap.size)) (w.alloc obj)
def lookB (ops : Array Oper) (m n : Nat) : Bool :=
  (List.range n).all fun i => decide (i < m) || (List.range n).all fun j => decide (j < m) ||
    match ops[i]?, ops[j]? with
    | some oi, some oj => (match oj.dst with | some t => !(oi.looksAt ops).contains t | none => true)
    | _, _ => true
/-- The tail waits for all of the head but the late ones; who is not apart from a late one waits for it by an edge of its own. -/
def tailL (b : Array Nat) (ops : Array Oper) (n : Nat) (late : Nat → Bool) : Bool :=
  (List.range ops.size).all fun i => decide (i < n) || (List.range n).all fun j => late j || (b.getD i 0).testBit j
def lateB (ops : Array Oper) (m n : Nat) (late : Nat → Bool) : Bool :=
  (List.range n).all fun i => !late i || (decide (i < m) && (List.range ops.size).all fun j => decide (j ≤ i) ||
    match ops[i]?, ops[j]? with
    | some oi, some oj => oj.after.any (fun e => Region.binds .any e && e.on == i) || oi.apart ops oj
    | _, _ => true)
def grB' (b : Array Nat) (ops : Array Oper) (m n : Nat) (late : Nat → Bool) : Bool :=
  Region.noSelect ops && decide (n ≤ ops.size) && decide (m ≤ n) && edgesB ops && tailL b ops n late && chainB' b ops n && tempsB b ops && lookB ops m n && lateB ops m n late
def grB (ops : Array Oper) (m n : Nat) (late : Nat → Bool) : Bool := grB' (Region.before ops) ops m n late
/-- What is known of the blocks that the listed allocations have made. -/
structure Made (W : World) (m n : Nat) (objs : Nat → Obj) (L : Nat → Bool) (g : Nat → Nat) (w : World) : Prop where
  grows : Grows W w
  made : ∀ i, m ≤ i → i < n → L i = true → W.heap.size ≤ g i ∧ w.heap[g i]? = some (objs i)
  ne : ∀ i j, m ≤ i → i < n → m ≤ j → j < n → L i = true → L j = true → i ≠ j → g i ≠ g j
theorem Made.grow {W : World} {m n : Nat} {objs : Nat → Obj} {L : Nat → Bool} {g : Nat → Nat} {w w' : World} (h : Made W m n objs L g w) (hg : Grows w w') : Made W m n objs L g w' :=
  ⟨h.grows.trans (hg.mono h.grows.size), fun i h1 h2 h3 => ⟨(h.made i h1 h2 h3).1, by
    have h4 := (h.made i h1 h2 h3).2
    rw [hg.block (g i) (Array.getElem?_eq_some_iff.1 h4).1]; exact h4⟩, h.ne⟩
theorem Made.alloc {W : World} {m n : Nat} {objs : Nat → Obj} {L : Nat → Bool} {g : Nat → Nat} {w : World} (h : Made W m n objs L g w) {i : Nat} (hi : L i = false) :
    Made W m n objs (fun j => if j = i then true else L j) (fun j => if j = i then w.heap.size else g j) (w.alloc (objs i)) := by
  have old : ∀ j, j ≠ i → (if j = i then true else L j) = true → L j = true := fun j hj h => by rw [if_neg hj] at h; exact h
  refine ⟨h.grows.alloc h.grows.size _, fun j h1 h2 h3 => ?_, fun j k h1 h2 h3 h4 h5 h6 hne => ?_⟩
  · by_cases hj : j = i
    · subst hj
      simp only [if_true]
      refine ⟨h.grows.size, ?_⟩
      show (w.heap.push (objs j))[w.heap.size]? = _
      simp
    · simp only [if_neg hj] at h3 ⊢
      have := h.made j h1 h2 h3
      refine ⟨this.1, ?_⟩
      rw [RowKit.Below.heap_alloc _ _ _ (Array.getElem?_eq_some_iff.1 this.2).1]; exact this.2
  · by_cases hj : j = i
    · have hk : k ≠ i := fun e => hne (hj.trans e.symm)
      have := (h.made k h3 h4 (old k hk h6)).2
      have hlt := (Array.getElem?_eq_some_iff.1 this).1
      simp only [if_pos hj, if_neg hk]
      omega
    · by_cases hk : k = i
      · have := (h.made j h1 h2 (old j hj h5)).2
        have hlt := (Array.getElem?_eq_some_iff.1 this).1
        simp only [if_neg hj, if_pos hk]
        omega
      · simp only [if_neg hj, if_neg hk]
        exact h.ne j k h1 h2 h3 h4 (old j hj h5) (old k hk h6) hne
theorem Made.congr {W : World} {m n : Nat} {objs : Nat → Obj} {L L' : Nat → Bool} {g : Nat → Nat} {w : World} (h : Made W m n objs L g w) (e : ∀ i, i < n → L i = L' i) : Made W m n objs L' g w :=
  ⟨h.grows, fun i h1 h2 h3 => h.made i h1 h2 (by rw [e i h2]; exact h3), fun i j h1 h2 h3 h4 h5 h6 => h.ne i j h1 h2 h3 h4 (by rw [e i h2]; exact h5) (by rw [e j h4]; exact h6)⟩

def OpG (P : Program) (ops : Array Oper) (W : World) (late : Bool) (o : Oper) (a : Act) (v : Value) : Prop :=
  (late = true ∧ Yields P ops o v a) ∨ (Region.wanted o (yielded ops a.tmps) = true ∧ ∀ w, Grows W w → gives P o a w fun u w' => u = v ∧ Grows w w') ∨
  (Region.wanted o (yielded ops a.tmps) = false ∧ v = undef)
/-- The values: of the pure ones v, of the allocations mk at g. -/
def vg (m : Nat) (v : Nat → Value) (mk : Nat → Nat → Value) (g : Nat → Nat) (i : Nat) : Value := if i < m then v i else mk i (g i)

theorem lookB_spec {m n : Nat} (h : lookB ops m n = true) {i j : Nat} {oi oj : Oper} (hi : ops[i]? = some oi) (hj : ops[j]? = some oj) (h1 : m ≤ i) (h2 : i < n) (h3 : m ≤ j) (h4 : j < n) {t : Tmp} (ht : oj.dst = some t) (hn : t ∈ oi.looksAt ops) : False := by
  have h5 := List.all_eq_true.1 h i (List.mem_range.2 h2)
  rcases or_t h5 with h6 | h6
  · have := of_decide_eq_true h6; omega
  · have h7 := List.all_eq_true.1 h6 j (List.mem_range.2 h4)
    rcases or_t h7 with h8 | h8
    · have := of_decide_eq_true h8; omega
    · simp only [hi, hj, ht] at h8
      have := List.contains_iff_mem.2 hn
      rw [this] at h8; cases h8
/-- All but the late ones have come up: those first, then the tail. -/
theorem wpAny_late {m n : Nat} {late : Nat → Bool} (hB : grB ops m n late = true) (vals : Nat → Value) (a0 : Act) (w : World) (hQ : ∀ c d v (a : Act) w, Q (.panic c) (a.put d v) w → Q (.panic c) a w)
    (hok : ∀ i o, i < n → late i = true → ops[i]? = some o → Yields P ops o (vals i) (fill ops vals (fun _ => true) a0 i))
    (htail : wpList P ops Q (ops.toList.drop n) (fill ops vals (fun _ => true) a0 n) w) :
    ∀ (c : Nat) (listed : Array Bool), listed.size = ops.size → Closed ops listed → (∀ t, n ≤ t → listed.getD t false = false) → (∀ j, j < n → late j = false → listed.getD j false = true) →
      (List.range n).countP (fun j => !listed.getD j false) = c →
      wpAny P .any ops Q (c + (ops.size - n)) listed (fill ops vals (fun j => listed.getD j false) a0 n) w := by
  unfold grB grB' at hB
  simp only [Bool.and_eq_true, decide_eq_true_eq] at hB
  obtain ⟨⟨⟨⟨⟨⟨⟨⟨hsel, hn⟩, hmn⟩, hE⟩, hT⟩, hC⟩, hM⟩, hK⟩, hL⟩ := hB
  intro c
  induction c with
  | zero =>
    intro listed hs hc htl hnl hcount
    have hall : ∀ j, j < n → listed.getD j false = true := fun j hj => by
      have := (List.countP_eq_zero.1 hcount) j (List.mem_range.2 hj)
      simpa using this
    rw [fill_congr vals (fun j => listed.getD j false) (fun _ => true) a0 n hall, Nat.zero_add]
    have hlen : (ops.toList.drop n).length = ops.size - n := by simp
    have := wpAny_tail (P := P) (Q := Q) hE hC (ops.toList.drop n) n listed _ w (Nat.le_refl _) (by rw [hlen]; omega) (fun j => by simp [List.getElem?_drop]) hs hc
      (fun j _ => ⟨fun h => (by
        rcases Nat.lt_or_ge j n with h' | h'
        · exact h'
        · rw [htl j h'] at h; cases h), fun h => hall j h⟩) htail
    rwa [hlen] at this
  | succ c ih =>
    intro listed hs hc htl hnl hcount
    have : 0 < (List.range n).countP (fun j => !listed.getD j false) := by omega
    obtain ⟨i0, hi0, hp0⟩ := List.countP_pos_iff.1 this
    obtain ⟨i, hi, hle⟩ := least_ready hE hn hs i0 i0 rfl (List.mem_range.1 hi0) (by simpa using hp0)
    have hin : i < n := by have := List.mem_range.1 hi0; omega
    obtain ⟨hun, oi, hoi, hall⟩ := mem_ready.1 hi
    have li := (Array.getElem?_eq_some_iff.1 hoi).1
    have hif : listed.getD i false = false := by rw [← getD_ft (by omega)]; exact hun
    have hlate : late i = true := by
      cases h : late i with
      | true => rfl
      | false => rw [hnl i hin h] at hif; cases hif
    rw [show c + 1 + (ops.size - n) = (c + (ops.size - n)) + 1 by omega]
    have hy := hok i oi hin hlate hoi
    have hget : ∀ t ∈ oi.looksAt ops, (fill ops vals (fun j => listed.getD j false) a0 n).tmps[t]? = (fill ops vals (fun _ => true) a0 i).tmps[t]? := fun t ht => get_ready hM vals a0 hc hi hoi hif hin ht
    have hy' : Yields P ops oi (vals i) (fill ops vals (fun j => listed.getD j false) a0 n) := hy.of_same (execOp_of_get oi (fun cs b => Region.noSelect_spec hsel i oi cs b hoi) hget) (wanted_of_get oi hget)
    refine wpAny_first hoi (Region.noSelect_spec hsel) (fun c a w => hQ c _ _ a w) _ listed _ w (fun j oj hj hne hjl hno => ?_) hi hy' ?_
    · have lj := (Array.getElem?_eq_some_iff.1 hj).1
      rcases Nat.lt_or_ge i j with h1 | h1
      · have h2 := List.all_eq_true.1 hL i (List.mem_range.2 hin)
        simp only [hlate, Bool.not_true, Bool.false_or, Bool.and_eq_true] at h2
        have h3 := List.all_eq_true.1 h2.2 j (List.mem_range.2 lj)
        rcases or_t h3 with h4 | h4
        · have := of_decide_eq_true h4; omega
        · simp only [hoi, hj] at h4
          rcases or_t h4 with h5 | h5
          · obtain ⟨e, he, hb⟩ := Array.any_eq_true'.1 h5
            simp only [Bool.and_eq_true, beq_iff_eq] at hb
            exact absurd hb.2 (hno e he hb.1)
          · exact h5
      · -- a smaller one that is not listed: then i would wait for it, if they were not apart
        have hji : j < i := by omega
        cases hx : oi.apart ops oj with
        | true => rfl
        | false =>
          exfalso
          have hjf : listed.getD j false = false := by rw [← getD_ft (by omega)]; exact hjl
          have hnot : ¬ anc ops i j = true := fun h => by have := anc_ready hc hi j h; rw [hjf] at this; cases this
          -- who is not apart from a late one shares a temporary with it
          unfold Oper.apart at hx
          rw [Bool.and_eq_false_iff] at hx
          rcases hx with hx | hx
          · cases hd : oi.dst with
            | none => rw [hd] at hx; cases hx
            | some d =>
              rw [hd] at hx
              simp only [Bool.and_eq_false_iff, Bool.not_eq_false', bne_eq_false_iff_eq] at hx
              have := tempsB_spec hM hj hoi (by omega) hd (hx.imp (fun h => List.contains_iff_mem.1 h) id)
              rw [show max j i = i by omega, show min j i = j by omega] at this
              exact hnot this
          · cases hd : oj.dst with
            | none => rw [hd] at hx; cases hx
            | some d =>
              rw [hd] at hx
              simp only [Bool.not_eq_false'] at hx
              have := tempsB_spec hM hoi hj (by omega) hd (.inl (List.contains_iff_mem.1 hx))
              rw [show max i j = i by omega, show min i j = j by omega] at this
              exact hnot this
    · rw [put_ready hM vals a0 hc hoi hif hin (by omega)]
      exact ih (listed.setIfInBounds i true) (by simpa using hs) (closed_set hs hc hi) (fun t ht => by rw [getD_set_ne false (by omega)]; exact htl t ht)
        (fun j hj hl => getD_set_true (hnl j hj hl)) (count_ready hif hin (by omega) hcount)

/-- The head, in whatever order. -/
theorem wpAny_headG {W : World} {m n : Nat} {late : Nat → Bool} (hB : grB ops m n late = true) (v : Nat → Value) (mk : Nat → Nat → Value) (objs : Nat → Obj) (a0 : Act)
    (hQ : ∀ c d v (a : Act) w, Q (.panic c) (a.put d v) w → Q (.panic c) a w)
    (hok : ∀ i o, i < m → ops[i]? = some o → OpG P ops W (late i) o (fill ops v (fun _ => true) a0 i) (v i))
    (hokl : ∀ i o, i < m → late i = true → ops[i]? = some o → Yields P ops o (v i) (fill ops v (fun _ => true) a0 i))
    (hal : ∀ i o, m ≤ i → i < n → ops[i]? = some o → AlOk P o (fill ops v (fun _ => true) a0 m) (mk i) (objs i))
    (htail : ∀ g w, Made W m n objs (fun _ => true) g w → wpList P ops Q (ops.toList.drop n) (fill ops (vg m v mk g) (fun _ => true) a0 n) w) :
    ∀ (c : Nat) (listed : Array Bool) (g : Nat → Nat) (w : World), listed.size = ops.size → Closed ops listed → (∀ t, n ≤ t → listed.getD t false = false) →
      (List.range n).countP (fun j => !listed.getD j false) = c → Made W m n objs (fun j => listed.getD j false) g w →
      wpAny P .any ops Q (c + (ops.size - n)) listed (fill ops (vg m v mk g) (fun j => listed.getD j false) a0 n) w := by
  have hB0 := hB
  unfold grB grB' at hB
  simp only [Bool.and_eq_true, decide_eq_true_eq] at hB
  obtain ⟨⟨⟨⟨⟨⟨⟨⟨hsel, hn⟩, hmn⟩, hE⟩, hT⟩, hC⟩, hM⟩, hK⟩, hL⟩ := hB
  have hlm : ∀ i, i < n → late i = true → i < m := fun i hi hl => by
    have h2 := List.all_eq_true.1 hL i (List.mem_range.2 hi)
    simp only [hl, Bool.not_true, Bool.false_or, Bool.and_eq_true, decide_eq_true_eq] at h2
    exact h2.1
  intro c
  induction c with
  | zero =>
    intro listed g w hs hc htl hcount hS
    have hall : ∀ j, j < n → listed.getD j false = true := fun j hj => by
      have := (List.countP_eq_zero.1 hcount) j (List.mem_range.2 hj)
      simpa using this
    exact wpAny_late hB0 (vg m v mk g) a0 w hQ (fun i o hi hl ho => by
      have him := hlm i hi hl
      have : vg m v mk g i = v i := by unfold vg; rw [if_pos him]
      rw [this, fill_vals_L (vg m v mk g) v _ a0 i (fun j hj _ => by unfold vg; rw [if_pos (by omega)])]
      exact hokl i o him hl ho) (htail g w (hS.congr hall)) 0 listed hs hc htl (fun j hj _ => hall j hj) hcount
  | succ c ih =>
    intro listed g w hs hc htl hcount hS
    by_cases hex : ∀ j, j < n → late j = false → listed.getD j false = true
    · -- only late ones are left
      have hfl : ∀ L : Nat → Bool, True := fun _ => trivial
      exact wpAny_late hB0 (vg m v mk g) a0 w hQ (fun i o hi hl ho => by
        have him := hlm i hi hl
        have : vg m v mk g i = v i := by unfold vg; rw [if_pos him]
        rw [this, fill_vals_L (vg m v mk g) v _ a0 i (fun j hj _ => by unfold vg; rw [if_pos (by omega)])]
        exact hokl i o him hl ho) (htail g w ⟨hS.grows, fun i h1 h2 _ => hS.made i h1 h2 (hex i h2 (by
          cases h : late i with
          | false => rfl
          | true => have := hlm i h2 h; omega)), fun i j h1 h2 h3 h4 _ _ => hS.ne i j h1 h2 h3 h4 (hex i h2 (by
          cases h : late i with
          | false => rfl
          | true => have := hlm i h2 h; omega)) (hex j h4 (by
          cases h : late j with
          | false => rfl
          | true => have := hlm j h4 h; omega))⟩) (c + 1) listed hs hc htl hex hcount
    have hex : ∃ i, i < n ∧ late i = false ∧ listed.getD i false = false := by
      refine Classical.byContradiction fun hno => hex fun j hj hl => ?_
      cases hx : listed.getD j false with
      | true => rfl
      | false => exact absurd ⟨j, hj, hl, hx⟩ hno
    have hhead : ∀ i ∈ Region.ready .any ops listed, i < n := by
      intro i hi
      rcases Nat.lt_or_ge i n with h | h
      · exact h
      · obtain ⟨hun, oi, hoi, _⟩ := mem_ready.1 hi
        have li := (Array.getElem?_eq_some_iff.1 hoi).1
        have h2 := List.all_eq_true.1 hT i (List.mem_range.2 li)
        rcases or_t h2 with h3 | h3
        · have := of_decide_eq_true h3; omega
        · obtain ⟨j, hj, hjl, hjf⟩ := hex
          have h5 := List.all_eq_true.1 h3 j (List.mem_range.2 hj)
          rw [hjl, Bool.false_or] at h5
          have h4 := anc_ready hc hi j h5
          rw [hjf] at h4; cases h4
    have hne : Region.ready .any ops listed ≠ [] := by
      obtain ⟨i, hi, _, hif⟩ := hex
      obtain ⟨k, hk, _⟩ := least_ready hE hn hs i i rfl hi hif
      intro h; rw [h] at hk; cases hk
    rw [show c + 1 + (ops.size - n) = (c + (ops.size - n)) + 1 by omega]
    refine ⟨fun h => absurd h hne, fun i hi => ?_⟩
    have hin := hhead i hi
    obtain ⟨hun, oi, hoi, hall⟩ := mem_ready.1 hi
    have li := (Array.getElem?_eq_some_iff.1 hoi).1
    have hif : listed.getD i false = false := by rw [← getD_ft (by omega)]; exact hun
    have hget : i < m → ∀ t ∈ oi.looksAt ops, (fill ops (vg m v mk g) (fun j => listed.getD j false) a0 n).tmps[t]? = (fill ops v (fun _ => true) a0 i).tmps[t]? := fun him t ht => by
      rw [get_ready hM (vg m v mk g) a0 hc hi hoi hif hin ht, fill_vals_L (vg m v mk g) v _ a0 i (fun j hj _ => by unfold vg; rw [if_pos (by omega)])]
    have hgetA : m ≤ i → ∀ t ∈ oi.looksAt ops, (fill ops (vg m v mk g) (fun j => listed.getD j false) a0 n).tmps[t]? = (fill ops v (fun _ => true) a0 m).tmps[t]? := fun him t ht => by
      have key : ∀ j, j < n → dstOf ops j = some t → listed.getD j false = decide (j < m) := by
        intro j hj hd
        obtain ⟨oj, hoj, hdj⟩ := dst_spec hd
        rcases Nat.lt_or_ge j m with h1 | h1
        · have := tempsB_spec hM hoi hoj (by omega) hdj (.inl ht)
          rw [show max i j = i by omega, show min i j = j by omega] at this
          rw [anc_ready hc hi j this]; simp [h1]
        · exact (lookB_spec hK hoi hoj him hin h1 hj hdj ht).elim
      rw [fill_get (ops := ops) (vg m v mk g) (fun j => listed.getD j false) (fun j => decide (j < m)) a0 t n key]
      rw [show n = m + (n - m) by omega, fill_lt _ a0 m (n - m), fill_vals_L (vg m v mk g) v _ a0 m (fun j hj _ => by unfold vg; rw [if_pos (by omega)])]
    have hput : ∀ vals : Nat → Value, (fill ops vals (fun j => listed.getD j false) a0 n).put oi.dst (vals i) = fill ops vals (fun j => (listed.setIfInBounds i true).getD j false) a0 n :=
      fun vals => put_ready hM vals a0 hc hoi hif hin (by omega)
    have hcount' := count_ready hif hin (by omega) hcount
    have hclosed' := closed_set hs hc hi
    have htl' : ∀ t, n ≤ t → (listed.setIfInBounds i true).getD t false = false := fun t ht => by
      rw [getD_set_ne false (by omega)]; exact htl t ht
    have hset : ∀ j, (if j = i then true else listed.getD j false) = (listed.setIfInBounds i true).getD j false := fun j => (getD_set_i (by omega) j).symm
    unfold wpOp
    simp only [hoi]
    have hsl := fun cs b => Region.noSelect_spec hsel i oi cs b hoi
    by_cases him : i < m
    · -- a pure one
      have hfin : ∀ w', Grows w w' → wpAny P .any ops Q (c + (ops.size - n)) (listed.setIfInBounds i true) ((fill ops (vg m v mk g) (fun j => listed.getD j false) a0 n).put oi.dst (v i)) w' := fun w' hg' => by
        have hvi : v i = vg m v mk g i := by unfold vg; rw [if_pos him]
        rw [hvi, hput]
        refine ih (listed.setIfInBounds i true) g w' (by simpa using hs) hclosed' htl' hcount' ?_
        have h1 := hS.grow hg'
        exact ⟨h1.grows, fun j h2 h3 h4 => h1.made j h2 h3 (by rw [getD_set_ne false (by omega)] at h4; exact h4),
          fun j k h2 h3 h4 h5 h6 h7 => h1.ne j k h2 h3 h4 h5 (by rw [getD_set_ne false (by omega)] at h6; exact h6) (by rw [getD_set_ne false (by omega)] at h7; exact h7)⟩
      rw [wanted_of_get oi (hget him)]
      rcases hok i oi him hoi with ⟨_, hy⟩ | ⟨hw, hg⟩ | ⟨hw, hv⟩
      · rcases hy with ⟨hw, hr⟩ | ⟨hw, hv⟩
        · rw [if_pos hw]
          left
          unfold Oper.wp
          rw [execOp_of_get oi hsl (hget him), hr w]
          exact hfin w (RowKit.Below.refl _ _)
        · rw [if_neg (by rw [hw]; simp)]
          have := hfin w (RowKit.Below.refl _ _)
          rw [hv] at this
          exact this
      · rw [if_pos hw]
        left
        have := hg w hS.grows
        refine gives_wp (R := fun u w' => u = v i ∧ Grows w w') ?_ (fun u w' ⟨h1, h2⟩ => by subst h1; exact hfin w' h2)
        unfold gives
        rw [execOp_of_get oi hsl (hget him)]
        exact this
      · rw [if_neg (by rw [hw]; simp)]
        have := hfin w (RowKit.Below.refl _ _)
        rw [hv] at this
        exact this
    · -- an allocation
      have hmi : m ≤ i := by omega
      obtain ⟨hgd, hrun⟩ := hal i oi hmi hin hoi
      have hw : Region.wanted oi (yielded ops (fill ops (vg m v mk g) (fun j => listed.getD j false) a0 n).tmps) = true := by simp [Region.wanted, hgd]
      rw [if_pos hw]
      left
      unfold Oper.wp
      rw [execOp_of_get oi hsl (hgetA hmi), hrun w]
      simp only [Oper.upon]
      have hfl : fill ops (vg m v mk g) (fun j => listed.getD j false) a0 n = fill ops (vg m v mk (fun j => if j = i then w.heap.size else g j)) (fun j => listed.getD j false) a0 n :=
        fill_vals_L _ _ _ a0 n (fun j _ hl => by
          have hji : j ≠ i := fun e => by rw [e, hif] at hl; cases hl
          unfold vg; simp only [if_neg hji])
      have hvi : mk i w.heap.size = vg m v mk (fun j => if j = i then w.heap.size else g j) i := by unfold vg; simp only [if_neg him, if_true]
      rw [hfl, hvi, hput]
      refine ih (listed.setIfInBounds i true) (fun j => if j = i then w.heap.size else g j) _ (by simpa using hs) hclosed' htl' hcount' ?_
      have h1 := hS.alloc (i := i) hif
      exact h1.congr fun j _ => hset j

/-- The walk over the pure ones: each yields its value in every world that has what W had, and leaves what was there as it was. -/
def wpG (P : Program) (ops : Array Oper) (W : World) (late : List Bool) (L : Act → Prop) : List Oper → Act → Prop
  | [], a => L a
  | o :: rest, a => ∃ v, OpG P ops W (late.headD false) o a v ∧ (late.headD false = true → Yields P ops o v a) ∧ wpG P ops W late.tail L rest (a.put o.dst v)
/-- Over the allocations: k of them are still to come; gs: the blocks of those that came. -/
def wpAl (P : Program) (ops : Array Oper) (Q : Exit → Act → World → Prop) (W : World) (tail : List Oper) (ap : Act) : List Oper → List (Nat × Obj) → Act → Prop
  | [], gs, a => ∀ w, Grows W w → (∀ x ∈ gs, W.heap.size ≤ x.1 ∧ w.heap[x.1]? = some x.2) → gs.Pairwise (fun x y => x.1 ≠ y.1) → wpList P ops Q tail a w
  | o :: rest, gs, a => ∃ mk obj, AlOk P o ap mk obj ∧ ∀ g : Nat, wpAl P ops Q W tail ap rest (gs ++ [(g, obj)]) (a.put o.dst (mk g))

theorem vals_of_wpG {W : World} {Lq : Act → Prop} (a0 : Act) (late : Nat → Bool) : ∀ (l : List Oper) (i : Nat) (a : Act) (vals0 : Nat → Value) (ls : List Bool),
    (∀ j, j < l.length → l[j]? = ops[i + j]?) → (∀ j, j < l.length → ls.getD j false = late (i + j)) → a = fill ops vals0 (fun _ => true) a0 i → wpG P ops W ls Lq l a →
    ∃ vals : Nat → Value, (∀ j, j < i → vals j = vals0 j) ∧ (∀ j o, i ≤ j → j < i + l.length → ops[j]? = some o → OpG P ops W (late j) o (fill ops vals (fun _ => true) a0 j) (vals j) ∧
        (late j = true → Yields P ops o (vals j) (fill ops vals (fun _ => true) a0 j))) ∧
      Lq (fill ops vals (fun _ => true) a0 (i + l.length))
  | [], i, a, vals0, _, _, _, ha, h => ⟨vals0, fun _ _ => rfl, fun j o h1 h2 => (by simp at h2; omega), by subst ha; exact h⟩
  | o :: l, i, a, vals0, ls, hl, hls, ha, h => by
    obtain ⟨v, hok, hy, h'⟩ := h
    have h0 : ops[i]? = some o := by simpa using (hl 0 (by simp)).symm
    have hlh : ls.headD false = late i := by
      have := hls 0 (by simp)
      rw [Nat.add_zero] at this
      rw [← this]; cases ls <;> rfl
    have hv1 : ∀ j, j < i → (fun j => if j = i then v else vals0 j) j = vals0 j := fun j hj => if_neg (by omega)
    obtain ⟨vals, e1, e2, e3⟩ := vals_of_wpG a0 late l (i + 1) (a.put o.dst v) (fun j => if j = i then v else vals0 j) ls.tail
      (fun j hj => by have := hl (j + 1) (by simp; omega); simpa [Nat.add_assoc, Nat.add_comm 1 j] using this)
      (fun j hj => by
        have := hls (j + 1) (by simp; omega)
        rw [show i + 1 + j = i + (j + 1) by omega, ← this]
        cases ls <;> simp)
      (by
        subst ha
        rw [fill_succ]
        simp only [if_true]
        rw [fill_vals (fun j => if j = i then v else vals0 j) vals0 _ a0 i hv1]
        simp [dstOf, h0]) h'
    have ei : vals i = v := by rw [e1 i (by omega)]; simp
    have ef : fill ops vals (fun _ => true) a0 i = fill ops vals0 (fun _ => true) a0 i := fill_vals _ _ _ a0 i (fun j hj => by rw [e1 j (by omega), if_neg (by omega)])
    refine ⟨vals, fun j hj => by rw [e1 j (by omega), if_neg (by omega)], fun j o' h1 h2 ho => ?_, by simpa [Nat.add_assoc, Nat.add_comm 1] using e3⟩
    by_cases hj : j = i
    · subst hj
      obtain rfl : o' = o := Option.some.inj (ho.symm.trans h0)
      rw [ef, ei, ← ha, ← hlh]; exact ⟨hok, hy⟩
    · exact e2 j o' (by omega) (by simp only [List.length_cons] at h2; omega) ho

/-- What 'wpAl' gives: the allocations' values and objects, and the tail under each choice of their blocks. -/
theorem als_of_wpAl {W : World} {tail : List Oper} {ap : Act} (m : Nat) (v : Nat → Value) (a0 : Act) : ∀ (l : List Oper) (i : Nat) (mk0 : Nat → Nat → Value) (objs0 : Nat → Obj), m ≤ i →
    (∀ j, j < l.length → l[j]? = ops[i + j]?) →
    (∀ g : Nat → Nat, wpAl P ops Q W tail ap l ((List.range' m (i - m)).map fun j => (g j, objs0 j)) (fill ops (vg m v mk0 g) (fun _ => true) a0 i)) →
    ∃ (mk : Nat → Nat → Value) (objs : Nat → Obj), (∀ j o, i ≤ j → j < i + l.length → ops[j]? = some o → AlOk P o ap (mk j) (objs j)) ∧ (∀ j, j < i → mk j = mk0 j ∧ objs j = objs0 j) ∧
      ∀ (g : Nat → Nat) (w : World), Grows W w → (∀ x ∈ (List.range' m (i + l.length - m)).map (fun j => (g j, objs j)), W.heap.size ≤ x.1 ∧ w.heap[x.1]? = some x.2) →
        ((List.range' m (i + l.length - m)).map fun j => (g j, objs j)).Pairwise (fun x y => x.1 ≠ y.1) → wpList P ops Q tail (fill ops (vg m v mk g) (fun _ => true) a0 (i + l.length)) w
  | [], i, mk0, objs0, _, _, h => ⟨mk0, objs0, fun j o h1 h2 => (by simp at h2; omega), fun j _ => ⟨rfl, rfl⟩, fun g w hg h1 h2 => h g w hg h1 h2⟩
  | o :: l, i, mk0, objs0, hmi, hl, h => by
    have h0 : ops[i]? = some o := by simpa using (hl 0 (by simp)).symm
    obtain ⟨mk, obj, hok, _⟩ := h (fun _ => 0)
    -- the choice of mk and obj may be made once: an allocation's run says what it is
    have huniq : ∀ mk' obj', AlOk P o ap mk' obj' → (∀ w : World, mk' w.heap.size = mk w.heap.size ∧ w.alloc obj' = w.alloc obj) := fun mk' obj' h' w => by
      have h1 := h'.run w
      rw [hok.run w] at h1
      simp only [Result.ok.injEq, Next.value.injEq] at h1
      exact ⟨h1.1.symm, h1.2.symm⟩
    have hsz : ∀ n : Nat, ∃ w : World, w.heap.size = n := fun n => ⟨{ (default : World) with heap := Array.replicate n default }, by simp⟩
    have hmk : ∀ mk' obj', AlOk P o ap mk' obj' → mk' = mk ∧ obj' = obj := fun mk' obj' h' => by
      refine ⟨funext fun n => ?_, ?_⟩
      · obtain ⟨w, hw⟩ := hsz n
        have := (huniq mk' obj' h' w).1
        rwa [hw] at this
      · have := (huniq mk' obj' h' default).2
        have h2 : (World.alloc default obj').heap = (World.alloc default obj).heap := by rw [this]
        have h3 : (default : World).heap.push obj' = (default : World).heap.push obj := h2
        have h4 := congrArg Array.back? h3
        simpa using h4
    have hr : List.range' m (i + 1 - m) = List.range' m (i - m) ++ [i] := by
      rw [show i + 1 - m = (i - m) + 1 by omega, List.range'_1_concat, show m + (i - m) = i by omega]
    obtain ⟨mk1, objs1, e1, e2, e3⟩ := als_of_wpAl m v a0 l (i + 1) (fun j => if j = i then mk else mk0 j) (fun j => if j = i then obj else objs0 j) (by omega)
      (fun j hj => by have := hl (j + 1) (by simp; omega); simpa [Nat.add_assoc, Nat.add_comm 1 j] using this)
      (fun g => by
        obtain ⟨mk', obj', hok', h'⟩ := h g
        obtain ⟨rfl, rfl⟩ := hmk mk' obj' hok'
        have := h' (g i)
        rw [hr, List.map_append, List.map_singleton, fill_succ, if_pos rfl]
        simp only [if_true]
        have ea : (List.range' m (i - m)).map (fun j => (g j, (fun j => if j = i then obj' else objs0 j) j)) = (List.range' m (i - m)).map (fun j => (g j, objs0 j)) := List.map_congr_left fun j hj => by
          have := (List.mem_range'_1.1 hj)
          simp only
          rw [if_neg (by omega)]
        have eb : fill ops (vg m v (fun j => if j = i then mk' else mk0 j) g) (fun _ => true) a0 i = fill ops (vg m v mk0 g) (fun _ => true) a0 i := fill_vals _ _ _ a0 i (fun j hj => by
          have hji : j ≠ i := by omega
          unfold vg; simp only [if_neg hji])
        have ec : vg m v (fun j => if j = i then mk' else mk0 j) g i = mk' (g i) := by
          have him : ¬ i < m := by omega
          unfold vg; simp only [if_neg him, if_true]
        have ed : dstOf ops i = o.dst := by simp [dstOf, h0]
        rw [eb, ec, ed]
        simp only at ea
        rw [ea]
        exact this)
    refine ⟨mk1, objs1, fun j o' h1 h2 ho => ?_, fun j hj => ?_, ?_⟩
    · by_cases hj : j = i
      · subst hj
        obtain rfl : o' = o := Option.some.inj (ho.symm.trans h0)
        have := e2 j (by omega)
        simp only [if_true] at this
        rw [this.1, this.2]; exact hok
      · exact e1 j o' (by omega) (by simp only [List.length_cons] at h2; omega) ho
    · have := e2 j (by omega)
      rw [if_neg (by omega), if_neg (by omega)] at this
      exact this
    · have e : i + (l.length + 1) = i + 1 + l.length := by omega
      simp only [List.length_cons]
      rw [e]
      exact e3

/-- **A REGION THAT DRAWS ITS ORDER: calls and reads (m of them), allocations (up to n), and a tail in its order.** -/
theorem wp_region_gr {id : Nat} {l : List Oper} {a : Act} {W : World} (m n : Nat) (ls : List Bool) (hm : P.follows .mixedOrders = true) (hB : grB l.toArray m n (fun i => ls.getD i false) = true)
    (hQ : ∀ c d v (a : Act) w, Q (.panic c) (a.put d v) w → Q (.panic c) a w)
    (h : wpG P l.toArray W ls (fun ap => wpAl P l.toArray Q W (l.drop n) ap ((l.take n).drop m) [] ap) (l.take m) a) : (Code.region id l.toArray true).wp P Q a W := by
  have hnm : n ≤ l.length ∧ m ≤ n := by
    unfold grB grB' at hB
    simp only [Bool.and_eq_true, decide_eq_true_eq] at hB
    exact ⟨by simpa using hB.1.1.1.1.1.1.1.2, hB.1.1.1.1.1.1.2⟩
  obtain ⟨v, _, e2, e3⟩ := vals_of_wpG (ops := l.toArray) a (fun i => ls.getD i false) (l.take m) 0 a (fun _ => undef) ls (fun j hj => by
    have : j < m := by simp at hj; omega
    simp [this]) (fun j _ => by rw [Nat.zero_add]) rfl h
  have hlen : (l.take m).length = m := by simp; omega
  have hlen2 : ((l.take n).drop m).length = n - m := by simp; omega
  rw [hlen, Nat.zero_add] at e3
  obtain ⟨mk, objs, f1, _, f3⟩ := als_of_wpAl (ops := l.toArray) (P := P) (Q := Q) m v a ((l.take n).drop m) m (fun _ _ => undef) (fun _ => default) (Nat.le_refl _)
    (fun j hj => by
      have : m + j < n := by rw [hlen2] at hj; omega
      simp [List.getElem?_drop, this])
    (fun g => by
      rw [Nat.sub_self]
      rw [fill_vals (vg m v (fun _ _ => undef) g) v _ a m (fun j hj => by unfold vg; rw [if_pos hj])]
      exact e3)
  rw [hlen2, show m + (n - m) = n by omega] at f1 f3
  refine wp_region_any hm ?_
  have hz : ∀ j, (Array.replicate l.toArray.size false).getD j false = false := fun j => by
    rcases Nat.lt_or_ge j l.toArray.size with h | h
    · simp at h; simp [h]
    · simp at h; simp [h]
  have H := wpAny_headG (P := P) (Q := Q) (ops := l.toArray) (W := W) hB v mk objs a hQ (fun i o hi ho => (e2 i o (Nat.zero_le _) (by rw [hlen]; omega) ho).1) (fun i o hi hl ho => (e2 i o (Nat.zero_le _) (by rw [hlen]; omega) ho).2 hl)
    (fun i o h1 h2 ho => f1 i o h1 h2 ho)
    (fun g w hM => by
      have := f3 g w hM.grows (fun x hx => by
        obtain ⟨j, hj, rfl⟩ := List.mem_map.1 hx
        have := List.mem_range'_1.1 hj
        exact hM.made j (by omega) (by omega) rfl) (by
        rw [List.pairwise_map]
        have hp : (List.range' m (n - m)).Pairwise (· < ·) := List.pairwise_lt_range'
        refine hp.imp_of_mem fun {x y} hx hy hxy => ?_
        have h1 := List.mem_range'_1.1 hx
        have h2 := List.mem_range'_1.1 hy
        exact hM.ne x y (by omega) (by omega) (by omega) (by omega) rfl rfl (by omega))
      simpa using this)
    n (Array.replicate l.toArray.size false) (fun _ => 0) { W with drawn := W.drawn + 1 } (by simp) (fun j oj _ hl => by rw [hz] at hl; cases hl) (fun t _ => hz t)
    (by
      have : (List.range n).countP (fun j => !(Array.replicate l.toArray.size false).getD j false) = (List.range n).length := List.countP_eq_length.2 fun j _ => by rw [hz]; rfl
      rw [this]; simp)
    ⟨⟨rfl, rfl, rfl, Nat.le_refl _, fun _ _ => rfl⟩, fun i _ _ h => (by rw [hz] at h; cases h), fun i j _ _ _ _ h => (by rw [hz] at h; cases h)⟩
  have ef : ∀ k, fill l.toArray (vg m v mk (fun _ => 0)) (fun j => (Array.replicate l.toArray.size false).getD j false) a k = a := by
    intro k
    induction k with
    | zero => rfl
    | succ k ih => unfold fill; rw [if_neg (by rw [hz]; simp)]; exact ih
  rw [ef] at H
  have : n + (l.toArray.size - n) = l.toArray.size := by simp; omega
  rw [this] at H
  exact H

theorem wpG_nil {W : World} {L : Act → Prop} {ls : List Bool} {a : Act} (h : L a) : wpG P ops W ls L [] a := h
theorem wpG_op {W : World} {L : Act → Prop} {ls : List Bool} {a : Act} {o : Oper} {rest : List Oper} {v : Value}
    (hl : ls.headD false = false) (h : ∀ w, Grows W w → if Region.wanted o (yielded ops a.tmps) then givesV P o a w v (Grows w) else undef = v)
    (hr : wpG P ops W ls.tail L rest (a.put o.dst v)) : wpG P ops W ls L (o :: rest) a := by
  refine ⟨v, .inr ?_, fun h => (by rw [hl] at h; cases h), hr⟩
  by_cases hw : Region.wanted o (yielded ops a.tmps) = true
  · left
    refine ⟨hw, fun w hS => ?_⟩
    have := h w hS
    rw [if_pos hw] at this
    exact givesV_gives this
  · right
    have := h W (RowKit.Below.refl _ _)
    rw [if_neg hw] at this
    exact ⟨by simpa using hw, this.symm⟩
/-- A late one: it looks at no memory. -/
theorem wpG_late {W : World} {L : Act → Prop} {ls : List Bool} {a : Act} {o : Oper} {rest : List Oper} {v : Value}
    (h : ∀ w : World, if Region.wanted o (yielded ops a.tmps) then (execOp a.eval o).run P w = .ok (.value v) w else undef = v)
    (hr : wpG P ops W ls.tail L rest (a.put o.dst v)) : wpG P ops W ls L (o :: rest) a := by
  have hy : Yields P ops o v a := by
    by_cases hw : Region.wanted o (yielded ops a.tmps) = true
    · exact .inl ⟨hw, fun w => by have := h w; rw [if_pos hw] at this; exact this⟩
    · have := h W
      rw [if_neg hw] at this
      exact .inr ⟨by simpa using hw, this.symm⟩
  refine ⟨v, ?_, fun _ => hy, hr⟩
  rcases hy with ⟨hw, hv⟩ | ⟨hw, hv⟩
  · exact .inr (.inl ⟨hw, fun w _ => by unfold gives; rw [hv w]; exact ⟨rfl, RowKit.Below.refl _ _⟩⟩)
  · exact .inr (.inr ⟨hw, hv⟩)
theorem wpAl_nil {W : World} {tail : List Oper} {ap a : Act} {gs : List (Nat × Obj)}
    (h : ∀ w, Grows W w → (∀ x ∈ gs, W.heap.size ≤ x.1 ∧ w.heap[x.1]? = some x.2) → gs.Pairwise (fun x y => x.1 ≠ y.1) → wpList P ops Q tail a w) : wpAl P ops Q W tail ap [] gs a := h
theorem wpAl_op {W : World} {tail : List Oper} {ap a : Act} {gs : List (Nat × Obj)} {o : Oper} {rest : List Oper} (mk : Nat → Value) {obj : Obj} (hg : o.guard = none)
    (hrun : ∀ w, (execOp ap.eval o).run P w = .ok (.value (mk w.heap.size)) (w.alloc obj)) (h : ∀ g : Nat, wpAl P ops Q W tail ap rest (gs ++ [(g, obj)]) (a.put o.dst (mk g))) : wpAl P ops Q W tail ap (o :: rest) gs a :=
  ⟨mk, obj, ⟨hg, hrun⟩, h⟩
/-- A goal over a world, that world under a name. -/
theorem at_callw {f : FuncId} {args : Array Value} {w : World} {R : Ending → World → Prop} (h : ∀ W, W = w → Calls P f args W R) : Calls P f args w R := h w rfl
theorem at_world {c : World → Prop} {w : World} (h : ∀ W, W = w → c W) : c w := h w rfl
end
end Go.Ph
