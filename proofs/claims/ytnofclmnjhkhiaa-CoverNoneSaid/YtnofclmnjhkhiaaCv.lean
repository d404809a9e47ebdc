/- A cover: spans in order, none of which touches the next: plain law; no program in sight. -/
namespace Go.Cv
abbrev Sp := Int × Int
def Wf (L : List Sp) : Prop := (∀ a ∈ L, a.1 < a.2) ∧ L.Pairwise (fun a b => a.2 < b.1)
def hasS (s : Sp) (x : Int) : Prop := s.1 ≤ x ∧ x < s.2
def inL (L : List Sp) (x : Int) : Prop := ∃ s ∈ L, hasS s x
theorem Wf.nil : Wf [] := ⟨fun a h => by simp at h, List.Pairwise.nil⟩
theorem Wf.tail {a : Sp} {r : List Sp} (h : Wf (a :: r)) : Wf r := ⟨fun b hb => h.1 b (List.mem_cons_of_mem _ hb), (List.pairwise_cons.1 h.2).2⟩
theorem Wf.cons {a : Sp} {r : List Sp} (h : Wf r) (ha : a.1 < a.2) (hr : ∀ b ∈ r, a.2 < b.1) : Wf (a :: r) :=
  ⟨fun b hb => by rcases List.mem_cons.1 hb with rfl | hb; exact ha; exact h.1 b hb, List.pairwise_cons.2 ⟨hr, h.2⟩⟩
theorem Wf.head {a : Sp} {r : List Sp} (h : Wf (a :: r)) : a.1 < a.2 := h.1 a List.mem_cons_self
theorem Wf.ahead {a : Sp} {r : List Sp} (h : Wf (a :: r)) : ∀ b ∈ r, a.2 < b.1 := (List.pairwise_cons.1 h.2).1
theorem Wf.get {L : List Sp} (h : Wf L) {k : Nat} {a : Sp} (ha : L[k]? = some a) : a.1 < a.2 := h.1 a (List.mem_of_getElem? ha)
theorem Wf.lt {L : List Sp} (h : Wf L) {k k' : Nat} {a b : Sp} (ha : L[k]? = some a) (hb : L[k']? = some b) (hk : k < k') : a.2 < b.1 := by
  obtain ⟨h1, e1⟩ := List.getElem?_eq_some_iff.1 ha
  obtain ⟨h2, e2⟩ := List.getElem?_eq_some_iff.1 hb
  have := (List.pairwise_iff_getElem.1 h.2) k k' h1 h2 hk
  rw [e1, e2] at this; exact this
theorem inL_nil (x : Int) : ¬ inL [] x := fun ⟨s, h, _⟩ => by simp at h
theorem inL_cons {a : Sp} {r : List Sp} {x : Int} : inL (a :: r) x ↔ hasS a x ∨ inL r x := by
  constructor
  · rintro ⟨s, h, hs⟩
    rcases List.mem_cons.1 h with rfl | h
    · exact .inl hs
    · exact .inr ⟨s, h, hs⟩
  · rintro (h | ⟨s, h, hs⟩)
    · exact ⟨a, List.mem_cons_self, h⟩
    · exact ⟨s, List.mem_cons_of_mem _ h, hs⟩
theorem inL_app {a b : List Sp} {x : Int} : inL (a ++ b) x ↔ inL a x ∨ inL b x := by
  unfold inL
  constructor
  · rintro ⟨s, h, hs⟩
    rcases List.mem_append.1 h with h | h
    · exact .inl ⟨s, h, hs⟩
    · exact .inr ⟨s, h, hs⟩
  · rintro (⟨s, h, hs⟩ | ⟨s, h, hs⟩)
    · exact ⟨s, List.mem_append.2 (.inl h), hs⟩
    · exact ⟨s, List.mem_append.2 (.inr h), hs⟩
/-- The place of the first whose end lies above x. -/
def frm : List Sp → Int → Nat
  | [], _ => 0
  | a :: r, x => if x < a.2 then 0 else frm r x + 1
theorem frm_le (L : List Sp) (x : Int) : frm L x ≤ L.length := by
  induction L with
  | nil => exact Nat.le_refl _
  | cons a r ih => unfold frm; split <;> simp <;> omega
theorem frm_lo {L : List Sp} {x : Int} : ∀ {k : Nat} {a : Sp}, k < frm L x → L[k]? = some a → a.2 ≤ x := by
  induction L with
  | nil => intro k a h; simp [frm] at h
  | cons b r ih =>
    intro k a h hk
    unfold frm at h
    split at h
    · omega
    · cases k with
      | zero => simp at hk; subst hk; omega
      | succ k => exact ih (k := k) (by omega) (by simpa using hk)
theorem frm_at {L : List Sp} {x : Int} : ∀ {a : Sp}, L[frm L x]? = some a → x < a.2 := by
  induction L with
  | nil => intro a h; simp at h
  | cons b r ih =>
    intro a h
    unfold frm at h
    split at h
    · simp at h; subst h; assumption
    · exact ih (by simpa using h)
theorem frm_hi {L : List Sp} (hw : Wf L) {x : Int} {k : Nat} {a : Sp} (hk : frm L x ≤ k) (h : L[k]? = some a) : x < a.2 := by
  by_cases e : frm L x = k
  · subst e; exact frm_at h
  · have hlt : frm L x < L.length := by have := (List.getElem?_eq_some_iff.1 h).1; omega
    have h1 := List.getElem?_eq_getElem hlt
    have := frm_at h1
    have := hw.lt h1 h (by omega)
    have := hw.get h
    omega
theorem frm_is {L : List Sp} {x : Int} {i : Nat} (hi : i ≤ L.length) (h1 : ∀ k a, k < i → L[k]? = some a → a.2 ≤ x) (h2 : ∀ a, L[i]? = some a → x < a.2) : i = frm L x := by
  rcases Nat.lt_trichotomy i (frm L x) with h | h | h
  · have hlt : i < L.length := by have := frm_le L x; omega
    have e := List.getElem?_eq_getElem hlt
    have a1 := frm_lo h e
    have a2 := h2 _ e
    omega
  · exact h
  · have hlt : frm L x < L.length := by omega
    have e := List.getElem?_eq_getElem hlt
    have a1 := h1 _ _ h e
    have a2 := frm_at e
    omega
theorem in_at {L : List Sp} (hw : Wf L) (x : Int) : inL L x ↔ ∃ a, L[frm L x]? = some a ∧ a.1 ≤ x := by
  constructor
  · rintro ⟨s, hs, h1, h2⟩
    obtain ⟨k, hk, e⟩ := List.mem_iff_getElem.1 hs
    have ek : L[k]? = some s := by rw [List.getElem?_eq_getElem hk, e]
    have : frm L x ≤ k := by
      rcases Nat.lt_or_ge k (frm L x) with h | h
      · have := frm_lo h ek; omega
      · exact h
    by_cases e2 : frm L x = k
    · exact ⟨s, by rw [e2]; exact ek, h1⟩
    · have hlt : frm L x < L.length := by omega
      have e3 := List.getElem?_eq_getElem hlt
      have a1 := frm_at e3
      have a2 := hw.lt e3 ek (by omega)
      omega
  · rintro ⟨a, h, h1⟩
    exact ⟨a, List.mem_of_getElem? h, h1, frm_at h⟩
/-- The place of the first that doesn't end ahead of x. -/
def frl : List Sp → Int → Nat
  | [], _ => 0
  | a :: r, x => if x ≤ a.2 then 0 else frl r x + 1
theorem frl_frm {L : List Sp} (hw : Wf L) (x : Int) : (frl L x = frm L x ∧ (∀ a, 0 < frm L x → L[frm L x - 1]? = some a → a.2 ≠ x)) ∨ (0 < frm L x ∧ frl L x = frm L x - 1 ∧ ∃ a, L[frm L x - 1]? = some a ∧ a.2 = x) := by
  induction L with
  | nil => left; exact ⟨rfl, fun a h => by simp [frm] at h⟩
  | cons b r ih =>
    unfold frl frm
    by_cases c1 : x < b.2
    · rw [if_pos (by omega), if_pos c1]; left; exact ⟨rfl, fun a h => by omega⟩
    · rw [if_neg c1]
      by_cases c2 : x ≤ b.2
      · rw [if_pos c2]
        have hf : frm r x = 0 := by
          cases r with
          | nil => rfl
          | cons d r' =>
            unfold frm
            have := hw.ahead d List.mem_cons_self
            have := hw.tail.head
            rw [if_pos (by omega)]
        right
        rw [hf]
        exact ⟨by omega, rfl, b, rfl, by omega⟩
      · rw [if_neg c2]
        rcases ih hw.tail with ⟨h1, h2⟩ | ⟨h1, h2, a, h3, h4⟩
        · left
          refine ⟨by omega, fun a _ h => ?_⟩
          simp only [Nat.add_sub_cancel] at h
          rcases Nat.eq_zero_or_pos (frm r x) with e | e
          · rw [e] at h; simp at h; subst h; omega
          · obtain ⟨q, hq⟩ : ∃ q, frm r x = q + 1 := ⟨frm r x - 1, by omega⟩
            rw [hq] at h
            simp only [List.getElem?_cons_succ] at h
            exact h2 a e (by rw [hq]; exact h)
        · right
          refine ⟨by omega, by omega, a, ?_, h4⟩
          simp only [Nat.add_sub_cancel]
          obtain ⟨q, hq⟩ : ∃ q, frm r x = q + 1 := ⟨frm r x - 1, by omega⟩
          rw [hq] at h3 ⊢
          simpa using h3
/-- What touches, one behind the other, is made one with s. -/
def absorb : Sp → List Sp → Sp × List Sp
  | s, [] => (s, [])
  | s, a :: r => if a.1 ≤ s.2 ∧ s.1 ≤ a.2 then absorb (min s.1 a.1, max s.2 a.2) r else (s, a :: r)
def ins : List Sp → Sp → List Sp
  | [], s => [s]
  | a :: r, s => if a.2 < s.1 then a :: ins r s else (absorb s (a :: r)).1 :: (absorb s (a :: r)).2
theorem ins_split (L : List Sp) (s : Sp) : ins L s = L.take (frl L s.1) ++ (absorb s (L.drop (frl L s.1))).1 :: (absorb s (L.drop (frl L s.1))).2 := by
  induction L with
  | nil => rfl
  | cons a r ih =>
    unfold ins frl
    by_cases c : a.2 < s.1
    · rw [if_pos c, if_neg (by omega), ih]; rfl
    · rw [if_neg c, if_pos (by omega)]; rfl
theorem absorb_len : ∀ (L : List Sp) (s : Sp), (absorb s L).2.length ≤ L.length := by
  intro L
  induction L with
  | nil => intro s; exact Nat.le_refl _
  | cons a r ih =>
    intro s
    unfold absorb
    split
    · have := ih (min s.1 a.1, max s.2 a.2); simp; omega
    · exact Nat.le_refl _
theorem ins_len : ∀ (L : List Sp) (s : Sp), (ins L s).length ≤ L.length + 1 := by
  intro L
  induction L with
  | nil => intro s; exact Nat.le_refl _
  | cons a r ih =>
    intro s
    unfold ins
    split
    · have := ih s; simp; omega
    · have := absorb_len (a :: r) s; simp at this ⊢; omega
theorem absorb_law : ∀ (L : List Sp) (s : Sp), Wf L → s.1 < s.2 → (∀ a ∈ L, s.1 ≤ a.2) →
    Wf ((absorb s L).1 :: (absorb s L).2) ∧ (∀ x, inL ((absorb s L).1 :: (absorb s L).2) x ↔ inL L x ∨ hasS s x) ∧ ∀ z, z < s.1 → (∀ a ∈ L, z < a.1) → z < (absorb s L).1.1 ∧ ∀ a ∈ (absorb s L).2, z < a.1 := by
  intro L
  induction L with
  | nil => intro s _ hs _; exact ⟨Wf.nil.cons hs (fun b h => by simp [absorb] at h), fun x => by rw [inL_cons]; constructor; rintro (h | h); exact .inr h; exact absurd h (inL_nil x); rintro (h | h); exact absurd h (inL_nil x); exact .inl h, fun z h _ => ⟨h, fun a h => by simp [absorb] at h⟩⟩
  | cons a r ih =>
    intro s hw hs hle
    unfold absorb
    have ha := hw.head
    have hsa := hle a List.mem_cons_self
    by_cases c : a.1 ≤ s.2 ∧ s.1 ≤ a.2
    · rw [if_pos c]
      have h3 : ∀ b ∈ r, (min s.1 a.1, max s.2 a.2).1 ≤ b.2 := fun b hb => by
        have := hw.ahead b hb
        have := hw.tail.1 b hb
        show min s.1 a.1 ≤ b.2
        omega
      obtain ⟨i1, i2, i3⟩ := ih (min s.1 a.1, max s.2 a.2) hw.tail (by show min s.1 a.1 < max s.2 a.2; omega) h3
      refine ⟨i1, fun x => ?_, fun z h1 h2 => i3 z (by show z < min s.1 a.1; have := h2 a List.mem_cons_self; omega) (fun b hb => h2 b (List.mem_cons_of_mem _ hb))⟩
      rw [i2, inL_cons]
      have : hasS (min s.1 a.1, max s.2 a.2) x ↔ hasS a x ∨ hasS s x := by
        unfold hasS
        show min s.1 a.1 ≤ x ∧ x < max s.2 a.2 ↔ _
        omega
      rw [this]
      constructor
      · rintro (h | h | h)
        · exact .inl (.inr h)
        · exact .inl (.inl h)
        · exact .inr h
      · rintro ((h | h) | h)
        · exact .inr (.inl h)
        · exact .inl h
        · exact .inr (.inr h)
    · rw [if_neg c]
      have hlt : s.2 < a.1 := by omega
      refine ⟨hw.cons hs (fun b hb => ?_), fun x => by rw [inL_cons]; exact or_comm, fun z h1 h2 => ⟨h1, fun b hb => h2 b hb⟩⟩
      rcases List.mem_cons.1 hb with rfl | hb
      · exact hlt
      · have := hw.ahead b hb; show s.2 < b.1; omega
theorem ins_law : ∀ (L : List Sp) (s : Sp), Wf L → s.1 < s.2 → Wf (ins L s) ∧ (∀ x, inL (ins L s) x ↔ inL L x ∨ hasS s x) ∧ ∀ z, z < s.1 → (∀ a ∈ L, z < a.1) → ∀ a ∈ ins L s, z < a.1 := by
  intro L
  induction L with
  | nil =>
    intro s _ hs
    refine ⟨Wf.nil.cons hs (fun b h => by simp at h), fun x => ?_, fun z h _ a ha => by simp [ins] at ha; subst ha; exact h⟩
    show inL [s] x ↔ _
    rw [inL_cons]; exact or_comm
  | cons a r ih =>
    intro s hw hs
    unfold ins
    by_cases c : a.2 < s.1
    · rw [if_pos c]
      obtain ⟨i1, i2, i3⟩ := ih s hw.tail hs
      refine ⟨i1.cons hw.head (i3 a.2 c hw.ahead), fun x => ?_, fun z h1 h2 b hb => ?_⟩
      · rw [inL_cons, i2, inL_cons, or_assoc]
      · rcases List.mem_cons.1 hb with rfl | hb
        · exact h2 b List.mem_cons_self
        · exact i3 z h1 (fun b hb => h2 b (List.mem_cons_of_mem _ hb)) b hb
    · rw [if_neg c]
      obtain ⟨i1, i2, i3⟩ := absorb_law (a :: r) s hw hs (fun b hb => by
        rcases List.mem_cons.1 hb with rfl | hb
        · omega
        · have := hw.ahead b hb; have := hw.tail.1 b hb; omega)
      refine ⟨i1, i2, fun z h1 h2 b hb => ?_⟩
      obtain ⟨j1, j2⟩ := i3 z h1 h2
      rcases List.mem_cons.1 hb with rfl | hb
      · exact j1
      · exact j2 b hb
/-- What is left of one, where s goes out. -/
def pcs (s a : Sp) : List Sp := (if a.1 < min a.2 s.1 then [(a.1, min a.2 s.1)] else []) ++ (if max a.1 s.2 < a.2 then [(max a.1 s.2, a.2)] else [])
def cutL (s : Sp) (L : List Sp) : List Sp := L.flatMap (pcs s)
theorem pcs_law (s a : Sp) (hs : s.1 < s.2) (ha : a.1 < a.2) : Wf (pcs s a) ∧ (∀ x, inL (pcs s a) x ↔ hasS a x ∧ ¬ hasS s x) ∧ ∀ b ∈ pcs s a, a.1 ≤ b.1 ∧ b.2 ≤ a.2 := by
  unfold pcs
  by_cases c1 : a.1 < min a.2 s.1
  · rw [if_pos c1]
    by_cases c2 : max a.1 s.2 < a.2
    · rw [if_pos c2]
      refine ⟨(Wf.nil.cons c2 (fun b h => by simp at h)).cons c1 (fun b hb => ?_), fun x => ?_, fun b hb => ?_⟩
      · rw [List.mem_singleton.1 hb]; show min a.2 s.1 < max a.1 s.2; omega
      · show inL [(a.1, min a.2 s.1), (max a.1 s.2, a.2)] x ↔ _
        rw [inL_cons, inL_cons]
        have := inL_nil x
        unfold hasS; dsimp only
        constructor
        · rintro (h | h | h)
          · omega
          · omega
          · exact absurd h this
        · rintro ⟨h1, h2⟩
          by_cases c : x < s.1
          · left; omega
          · right; left; omega
      · simp at hb
        rcases hb with rfl | rfl
        · exact ⟨Int.le_refl _, by show min a.2 s.1 ≤ a.2; omega⟩
        · exact ⟨by show a.1 ≤ max a.1 s.2; omega, Int.le_refl _⟩
    · rw [if_neg c2]
      refine ⟨Wf.nil.cons c1 (fun b h => by simp at h), fun x => ?_, fun b hb => ?_⟩
      · show inL [(a.1, min a.2 s.1)] x ↔ _
        rw [inL_cons]
        have := inL_nil x
        unfold hasS; dsimp only
        constructor
        · rintro (h | h)
          · omega
          · exact absurd h this
        · rintro ⟨h1, h2⟩
          left; omega
      · simp at hb
        subst hb
        exact ⟨Int.le_refl _, by show min a.2 s.1 ≤ a.2; omega⟩
  · rw [if_neg c1]
    by_cases c2 : max a.1 s.2 < a.2
    · rw [if_pos c2]
      refine ⟨Wf.nil.cons c2 (fun b h => by simp at h), fun x => ?_, fun b hb => ?_⟩
      · show inL [(max a.1 s.2, a.2)] x ↔ _
        rw [inL_cons]
        have := inL_nil x
        unfold hasS; dsimp only
        constructor
        · rintro (h | h)
          · omega
          · exact absurd h this
        · rintro ⟨h1, h2⟩
          left; omega
      · simp at hb
        subst hb
        exact ⟨by show a.1 ≤ max a.1 s.2; omega, Int.le_refl _⟩
    · rw [if_neg c2]
      refine ⟨Wf.nil, fun x => ?_, fun b hb => by simp at hb⟩
      show inL [] x ↔ _
      have := inL_nil x
      unfold hasS
      constructor
      · intro h; exact absurd h this
      · rintro ⟨h1, h2⟩; omega
theorem cutL_law (s : Sp) (hs : s.1 < s.2) : ∀ L : List Sp, Wf L → Wf (cutL s L) ∧ (∀ x, inL (cutL s L) x ↔ inL L x ∧ ¬ hasS s x) ∧ ∀ b ∈ cutL s L, ∃ a ∈ L, a.1 ≤ b.1 ∧ b.2 ≤ a.2 := by
  intro L
  induction L with
  | nil => intro _; exact ⟨Wf.nil, fun x => ⟨fun h => absurd h (inL_nil x), fun h => absurd h.1 (inL_nil x)⟩, fun b hb => by simp [cutL] at hb⟩
  | cons a r ih =>
    intro hw
    obtain ⟨i1, i2, i3⟩ := ih hw.tail
    obtain ⟨p1, p2, p3⟩ := pcs_law s a hs hw.head
    have e : cutL s (a :: r) = pcs s a ++ cutL s r := rfl
    rw [e]
    refine ⟨⟨fun b hb => ?_, List.pairwise_append.2 ⟨p1.2, i1.2, fun b hb d hd => ?_⟩⟩, fun x => ?_, fun b hb => ?_⟩
    · rcases List.mem_append.1 hb with hb | hb
      · exact p1.1 b hb
      · exact i1.1 b hb
    · obtain ⟨f, hf, h1, h2⟩ := i3 d hd
      have := hw.ahead f hf
      have := (p3 b hb).2
      omega
    · rw [inL_app, p2, i2, inL_cons]
      constructor
      · rintro (⟨h1, h2⟩ | ⟨h1, h2⟩)
        · exact ⟨.inl h1, h2⟩
        · exact ⟨.inr h1, h2⟩
      · rintro ⟨h1 | h1, h2⟩
        · exact .inl ⟨h1, h2⟩
        · exact .inr ⟨h1, h2⟩
    · rcases List.mem_append.1 hb with hb | hb
      · exact ⟨a, List.mem_cons_self, p3 b hb⟩
      · obtain ⟨f, hf, h⟩ := i3 b hb
        exact ⟨f, List.mem_cons_of_mem _ hf, h⟩
theorem pcs_one (s a : Sp) (h : s.2 ≤ a.2 → s.1 ≤ a.1) : (pcs s a).length ≤ 1 := by
  unfold pcs
  split <;> split <;> simp <;> omega
theorem cutL_right (s : Sp) : ∀ L : List Sp, (∀ a ∈ L, s.1 ≤ a.1) → (cutL s L).length ≤ L.length := by
  intro L
  induction L with
  | nil => intro _; exact Nat.le_refl _
  | cons a r ih =>
    intro h
    have e : cutL s (a :: r) = pcs s a ++ cutL s r := rfl
    have h1 := ih (fun b hb => h b (List.mem_cons_of_mem _ hb))
    have h2 := pcs_one s a (fun _ => h a List.mem_cons_self)
    rw [e]; simp; omega
theorem cutL_len (s : Sp) (hs : s.1 < s.2) : ∀ L : List Sp, Wf L → (cutL s L).length ≤ L.length + 1 := by
  intro L
  induction L with
  | nil => intro _; exact Nat.zero_le _
  | cons a r ih =>
    intro hw
    have e : cutL s (a :: r) = pcs s a ++ cutL s r := rfl
    have h3 : (pcs s a).length ≤ 2 := by unfold pcs; split <;> split <;> simp
    rw [e]
    by_cases c : s.2 ≤ a.2 → s.1 ≤ a.1
    · have := ih hw.tail
      have := pcs_one s a c
      simp; omega
    · have := cutL_right s r (fun b hb => by have := hw.ahead b hb; omega)
      simp; omega
end Go.Cv
