/- A stable sort by blocks: plain law; no program in sight. -/
namespace Go.Ps
/-- D' is D with the places from a up to b permuted among themselves. -/
def Pm (a b : Nat) (D D' : Nat → Nat) : Prop :=
  ∃ σ : Nat → Nat, (∀ i j, σ i = σ j → i = j) ∧ (∀ i, a ≤ i → i < b → a ≤ σ i ∧ σ i < b) ∧ (∀ i, i < a ∨ b ≤ i → σ i = i) ∧ ∀ i, D' i = D (σ i)
theorem Pm.refl (a b : Nat) (D : Nat → Nat) : Pm a b D D := ⟨fun i => i, fun _ _ h => h, fun _ h1 h2 => ⟨h1, h2⟩, fun _ _ => rfl, fun _ => rfl⟩
theorem Pm.trans {a b : Nat} {D E F : Nat → Nat} (h : Pm a b D E) (k : Pm a b E F) : Pm a b D F := by
  obtain ⟨σ, h1, h2, h3, h4⟩ := h
  obtain ⟨τ, k1, k2, k3, k4⟩ := k
  refine ⟨fun i => σ (τ i), fun i j e => k1 _ _ (h1 _ _ e), fun i x y => ?_, fun i x => ?_, fun i => by rw [k4, h4]⟩
  · obtain ⟨u, v⟩ := k2 i x y; exact h2 _ u v
  · show σ (τ i) = i; rw [k3 i x, h3 i x]
theorem Pm.mono {a b a' b' : Nat} {D E : Nat → Nat} (h : Pm a b D E) (ha : a' ≤ a) (hb : b ≤ b') : Pm a' b' D E := by
  obtain ⟨σ, h1, h2, h3, h4⟩ := h
  refine ⟨σ, h1, fun i x y => ?_, fun i x => h3 i (by omega), h4⟩
  by_cases hi : a ≤ i ∧ i < b
  · obtain ⟨u, v⟩ := h2 i hi.1 hi.2; omega
  · rw [h3 i (by omega)]; omega
theorem Pm.same {a b : Nat} {D E : Nat → Nat} (h : Pm a b D E) {i : Nat} (hi : i < a ∨ b ≤ i) : E i = D i := by
  obtain ⟨σ, h1, h2, h3, h4⟩ := h
  rw [h4, h3 i hi]
theorem Pm.all {a b : Nat} {D E : Nat → Nat} (h : Pm a b D E) {P : Nat → Prop} (hP : ∀ i, a ≤ i → i < b → P (D i)) : ∀ i, a ≤ i → i < b → P (E i) := by
  obtain ⟨σ, h1, h2, h3, h4⟩ := h
  intro i x y
  rw [h4]; obtain ⟨u, v⟩ := h2 i x y; exact hP _ u v
/-- The places from a up to a + n go where those from b on lie, and the other way round. -/
def sr (D : Nat → Nat) (a b n : Nat) : Nat → Nat := fun k => if a ≤ k ∧ k < a + n then D (k - a + b) else if b ≤ k ∧ k < b + n then D (k - b + a) else D k
def swp (D : Nat → Nat) (i j : Nat) : Nat → Nat := fun k => if k = i then D j else if k = j then D i else D k
theorem sr_zero (D : Nat → Nat) (a b : Nat) : sr D a b 0 = D := by
  funext k; unfold sr; rw [if_neg (by omega), if_neg (by omega)]
theorem sr_succ (D : Nat → Nat) (a b n : Nat) (h : a + n < b) : swp (sr D a b n) (a + n) (b + n) = sr D a b (n + 1) := by
  funext k
  unfold swp sr
  by_cases e1 : k = a + n
  · subst e1
    rw [if_pos rfl, if_neg (by omega), if_neg (by omega), if_pos (by omega)]
    congr 1; omega
  · rw [if_neg e1]
    by_cases e2 : k = b + n
    · subst e2
      rw [if_pos rfl, if_neg (by omega), if_neg (by omega), if_neg (by omega), if_pos (by omega)]
      congr 1; omega
    · rw [if_neg e2]
      by_cases c1 : a ≤ k ∧ k < a + n
      · rw [if_pos c1, if_pos (by omega)]
      · rw [if_neg c1]
        by_cases c2 : b ≤ k ∧ k < b + n
        · rw [if_pos c2, if_neg (by omega), if_pos (by omega)]
        · rw [if_neg c2, if_neg (by omega), if_neg (by omega)]
/-- The places from a up to m go behind those from m up to b. -/
def rotI (a m b : Nat) (k : Nat) : Nat := if a ≤ k ∧ k < a + (b - m) then k + (m - a) else if a + (b - m) ≤ k ∧ k < b then k - (b - m) else k
def rot (a m b : Nat) (D : Nat → Nat) : Nat → Nat := fun k => D (rotI a m b k)
theorem rot_pm {a m b : Nat} (h1 : a ≤ m) (h2 : m ≤ b) (D : Nat → Nat) : Pm a b D (rot a m b D) := by
  refine ⟨rotI a m b, ?_, ?_, ?_, fun _ => rfl⟩
  · intro i j e
    unfold rotI at e
    split at e <;> split at e <;> (try split at e) <;> (try split at e) <;> omega
  · intro i x y
    unfold rotI
    split
    · omega
    · split <;> omega
  · intro i x
    unfold rotI
    rw [if_neg (by omega), if_neg (by omega)]
theorem rotI_lo {a m b k : Nat} (h : k < a) : rotI a m b k = k := by unfold rotI; rw [if_neg (by omega), if_neg (by omega)]
theorem rotI_1 {a m b k : Nat} (h : a ≤ k) (h2 : k < a + (b - m)) : rotI a m b k = k + (m - a) := by unfold rotI; rw [if_pos (by omega)]
theorem rotI_2 {a m b k : Nat} (h : a + (b - m) ≤ k) (h2 : k < b) : rotI a m b k = k - (b - m) := by unfold rotI; rw [if_neg (by omega), if_pos (by omega)]
theorem rotI_hi {a m b k : Nat} (h : b ≤ k) (h2 : a + (b - m) ≤ k) : rotI a m b k = k := by unfold rotI; rw [if_neg (by omega), if_neg (by omega)]
theorem sr_1 {D : Nat → Nat} {a b n k : Nat} (h : a ≤ k) (h2 : k < a + n) : sr D a b n k = D (k - a + b) := by unfold sr; rw [if_pos (by omega)]
theorem sr_2 {D : Nat → Nat} {a b n k : Nat} (h0 : a + n ≤ b) (h : b ≤ k) (h2 : k < b + n) : sr D a b n k = D (k - b + a) := by unfold sr; rw [if_neg (by omega), if_pos (by omega)]
theorem sr_3 {D : Nat → Nat} {a b n k : Nat} (h : k < a ∨ a + n ≤ k) (h2 : k < b ∨ b + n ≤ k) : sr D a b n k = D k := by unfold sr; rw [if_neg (by omega), if_neg (by omega)]
theorem rot_gt {lo m hi i j : Nat} (h1 : lo + i = m) (h2 : m + j = hi) (hij : j < i) (D : Nat → Nat) : rot (lo + j) m hi (sr D lo m j) = rot lo m hi D := by
  funext k
  show sr D lo m j (rotI (lo + j) m hi k) = D (rotI lo m hi k)
  by_cases c0 : k < lo
  · rw [rotI_lo (by omega), rotI_lo (by omega), sr_3 (by omega) (by omega)]
  by_cases c1 : k < lo + j
  · rw [rotI_lo (by omega), rotI_1 (by omega) (by omega), sr_1 (by omega) (by omega)]; congr 1; omega
  by_cases c2 : k < lo + j + j
  · rw [rotI_1 (by omega) (by omega), rotI_2 (by omega) (by omega), sr_2 (by omega) (by omega) (by omega)]; congr 1; omega
  by_cases c3 : k < hi
  · rw [rotI_2 (by omega) (by omega), rotI_2 (by omega) (by omega), sr_3 (by omega) (by omega)]
  · rw [rotI_hi (by omega) (by omega), rotI_hi (by omega) (by omega), sr_3 (by omega) (by omega)]
theorem rot_lt {lo m hi i j : Nat} (h1 : lo + i = m) (h2 : m + j = hi) (hij : i < j) (D : Nat → Nat) : rot lo m (hi - i) (sr D lo (m + j - i) i) = rot lo m hi D := by
  funext k
  show sr D lo (m + j - i) i (rotI lo m (hi - i) k) = D (rotI lo m hi k)
  by_cases c0 : k < lo
  · rw [rotI_lo (by omega), rotI_lo (by omega), sr_3 (by omega) (by omega)]
  by_cases c1 : k < lo + (j - i)
  · rw [rotI_1 (by omega) (by omega), rotI_1 (by omega) (by omega), sr_3 (by omega) (by omega)]
  by_cases c2 : k < hi - i
  · rw [rotI_2 (by omega) (by omega), rotI_1 (by omega) (by omega), sr_1 (by omega) (by omega)]; congr 1; omega
  by_cases c3 : k < hi
  · rw [rotI_hi (by omega) (by omega), rotI_2 (by omega) (by omega), sr_2 (by omega) (by omega) (by omega)]; congr 1; omega
  · rw [rotI_hi (by omega) (by omega), rotI_hi (by omega) (by omega), sr_3 (by omega) (by omega)]
theorem rot_eq {lo m hi i : Nat} (h1 : lo + i = m) (h2 : m + i = hi) (D : Nat → Nat) : sr D lo m i = rot lo m hi D := by
  funext k
  show sr D lo m i k = D (rotI lo m hi k)
  unfold sr rotI
  by_cases c1 : lo ≤ k ∧ k < lo + i
  · rw [if_pos (by omega), if_pos (by omega)]; congr 1; omega
  · by_cases c2 : m ≤ k ∧ k < m + i
    · rw [if_neg (by omega), if_pos (by omega), if_neg (by omega), if_pos (by omega)]; congr 1; omega
    · rw [if_neg (by omega), if_neg (by omega), if_neg (by omega), if_neg (by omega)]
theorem rot_id_l (m b : Nat) (D : Nat → Nat) : rot m m b D = D := by
  funext k; show D (rotI m m b k) = D k
  unfold rotI; congr 1; split
  · omega
  · split <;> omega
theorem rot_id_r (a m : Nat) (D : Nat → Nat) : rot a m m D = D := by
  funext k; show D (rotI a m m k) = D k
  unfold rotI; congr 1; split
  · omega
  · split <;> omega
/-- One step of a shift to the right. -/
theorem rot_up (a k : Nat) (h : a ≤ k) (D : Nat → Nat) : swp (rot a (a + 1) (k + 1) D) k (k + 1) = rot a (a + 1) (k + 1 + 1) D := by
  funext x
  unfold swp
  show (if x = k then D (rotI a (a + 1) (k + 1) (k + 1)) else if x = k + 1 then D (rotI a (a + 1) (k + 1) k) else D (rotI a (a + 1) (k + 1) x)) = D (rotI a (a + 1) (k + 1 + 1) x)
  unfold rotI
  by_cases e1 : x = k
  · rw [if_pos e1, if_neg (by omega), if_neg (by omega), if_pos (by omega)]; congr 1; omega
  · rw [if_neg e1]
    by_cases e2 : x = k + 1
    · rw [if_pos e2, if_neg (by omega), if_pos (by omega), if_neg (by omega), if_pos (by omega)]; congr 1; omega
    · rw [if_neg e2]
      congr 1
      by_cases c : a ≤ x ∧ x < k
      · rw [if_pos (by omega), if_pos (by omega)]
      · rw [if_neg (by omega), if_neg (by omega), if_neg (by omega), if_neg (by omega)]
/-- One step of a shift to the left. -/
theorem rot_down (m k : Nat) (h : k < m) (D : Nat → Nat) : swp (rot (k + 1) m (m + 1) D) (k + 1) k = rot k m (m + 1) D := by
  funext x
  unfold swp
  show (if x = k + 1 then D (rotI (k + 1) m (m + 1) k) else if x = k then D (rotI (k + 1) m (m + 1) (k + 1)) else D (rotI (k + 1) m (m + 1) x)) = D (rotI k m (m + 1) x)
  unfold rotI
  by_cases e1 : x = k + 1
  · rw [if_pos e1, if_neg (by omega), if_neg (by omega), if_neg (by omega), if_pos (by omega)]; congr 1; omega
  · rw [if_neg e1]
    by_cases e2 : x = k
    · rw [if_pos e2, if_pos (by omega), if_pos (by omega)]; congr 1; omega
    · rw [if_neg e2]
      congr 1
      by_cases c : k + 1 < x ∧ x < m + 1
      · rw [if_neg (by omega), if_pos (by omega), if_neg (by omega), if_pos (by omega)]
      · rw [if_neg (by omega), if_neg (by omega), if_neg (by omega), if_neg (by omega)]

section
variable {R : Nat → Nat → Prop} (tr : ∀ x y z, R x y → R y z → R x z)
def Sd (R : Nat → Nat → Prop) (a b : Nat) (D : Nat → Nat) : Prop := ∀ i j, a ≤ i → i < j → j < b → R (D i) (D j)
theorem Sd.one (R : Nat → Nat → Prop) (a : Nat) (D : Nat → Nat) : Sd R a (a + 1) D := fun i j h1 h2 h3 => by omega
include tr
/-- What stands at m, laid in at i. -/
theorem ins_right {a i m : Nat} {D : Nat → Nat} (hai : a ≤ i) (him : i ≤ m) (hs : Sd R a m D) (h1 : i = a ∨ R (D (i - 1)) (D m)) (h2 : i = m ∨ R (D m) (D i)) : Sd R a (m + 1) (rot i m (m + 1) D) := by
  intro x y hx hxy hy
  show R (D (rotI i m (m + 1) x)) (D (rotI i m (m + 1) y))
  have low : ∀ z, a ≤ z → z < i → R (D z) (D m) := fun z h3 h4 => by
    rcases h1 with e | e
    · omega
    · by_cases ez : z = i - 1
      · subst ez; exact e
      · exact tr _ _ _ (hs z (i - 1) h3 (by omega) (by omega)) e
  have high : ∀ z, i ≤ z → z < m → R (D m) (D z) := fun z h3 h4 => by
    rcases h2 with e | e
    · omega
    · by_cases ez : z = i
      · subst ez; exact e
      · exact tr _ _ _ e (hs i z hai (by omega) h4)
  unfold rotI
  by_cases cx : x < i
  · rw [if_neg (by omega), if_neg (by omega)]
    by_cases cy : y < i
    · rw [if_neg (by omega), if_neg (by omega)]; exact hs x y hx hxy (by omega)
    · by_cases ey : y = i
      · rw [if_pos (by omega), show y + (m - i) = m by omega]; exact low x hx cx
      · rw [if_neg (by omega), if_pos (by omega)]; exact hs x _ hx (by omega) (by omega)
  · by_cases ex : x = i
    · rw [if_pos (by omega), if_neg (by omega), if_pos (by omega), show x + (m - i) = m by omega]
      exact high _ (by omega) (by omega)
    · rw [if_neg (by omega), if_pos (by omega), if_neg (by omega), if_pos (by omega)]
      exact hs _ _ (by omega) (by omega) (by omega)
/-- What stands at a, laid in ahead of i. -/
theorem ins_left {a i b : Nat} {D : Nat → Nat} (hai : a + 1 ≤ i) (hib : i ≤ b) (hs : Sd R (a + 1) b D) (h1 : i = a + 1 ∨ R (D (i - 1)) (D a)) (h2 : i = b ∨ R (D a) (D i)) : Sd R a b (rot a (a + 1) i D) := by
  intro x y hx hxy hy
  show R (D (rotI a (a + 1) i x)) (D (rotI a (a + 1) i y))
  have low : ∀ z, a + 1 ≤ z → z < i → R (D z) (D a) := fun z h3 h4 => by
    rcases h1 with e | e
    · omega
    · by_cases ez : z = i - 1
      · subst ez; exact e
      · exact tr _ _ _ (hs z (i - 1) h3 (by omega) (by omega)) e
  have high : ∀ z, i ≤ z → z < b → R (D a) (D z) := fun z h3 h4 => by
    rcases h2 with e | e
    · omega
    · by_cases ez : z = i
      · subst ez; exact e
      · exact tr _ _ _ e (hs i z hai (by omega) h4)
  unfold rotI
  by_cases cx : x < i - 1
  · rw [if_pos (by omega)]
    by_cases cy : y < i - 1
    · rw [if_pos (by omega)]; exact hs _ _ (by omega) (by omega) (by omega)
    · by_cases ey : y = i - 1
      · rw [if_neg (by omega), if_pos (by omega), show y - (i - (a + 1)) = a by omega]; exact low _ (by omega) (by omega)
      · rw [if_neg (by omega), if_neg (by omega)]; exact hs _ _ (by omega) (by omega) hy
  · by_cases ex : x = i - 1
    · rw [if_neg (by omega), if_pos (by omega), if_neg (by omega), if_neg (by omega), show x - (i - (a + 1)) = a by omega]; exact high y (by omega) hy
    · rw [if_neg (by omega), if_neg (by omega), if_neg (by omega), if_neg (by omega)]; exact hs x y (by omega) hxy hy
/-- The two halves behind the rotation. -/
theorem halves {a m b s e mid : Nat} {D : Nat → Nat} (has : a ≤ s) (hsm : s ≤ m) (hme : m ≤ e) (heb : e ≤ b) (hmid : mid + m = s + e) (hl : Sd R a m D) (hr : Sd R m b D)
    (h1 : s = a ∨ e = b ∨ R (D (s - 1)) (D e)) (h2 : s = m ∨ e = m ∨ R (D (e - 1)) (D s)) :
    Sd R a s (rot s m e D) ∧ Sd R s mid (rot s m e D) ∧ Sd R mid e (rot s m e D) ∧ Sd R e b (rot s m e D) ∧
    ∀ x y, a ≤ x → x < mid → mid ≤ y → y < b → R (rot s m e D x) (rot s m e D y) := by
  have g1 : ∀ x, x < s → rot s m e D x = D x := fun x hx => by show D (rotI s m e x) = D x; unfold rotI; rw [if_neg (by omega), if_neg (by omega)]
  have g2 : ∀ x, s ≤ x → x < mid → rot s m e D x = D (x + (m - s)) := fun x h3 h4 => by show D (rotI s m e x) = _; unfold rotI; rw [if_pos (by omega)]
  have g3 : ∀ x, mid ≤ x → x < e → rot s m e D x = D (x - (e - m)) := fun x h3 h4 => by show D (rotI s m e x) = _; unfold rotI; rw [if_neg (by omega), if_pos (by omega)]
  have g4 : ∀ x, e ≤ x → rot s m e D x = D x := fun x hx => by show D (rotI s m e x) = D x; unfold rotI; rw [if_neg (by omega), if_neg (by omega)]
  have c1 : ∀ p q, a ≤ p → p < s → e ≤ q → q < b → R (D p) (D q) := fun p q p1 p2 q1 q2 => by
    rcases h1 with h | h | h
    · omega
    · omega
    · have k1 : R (D p) (D e) := by
        by_cases ep : p = s - 1
        · subst ep; exact h
        · exact tr _ _ _ (hl p (s - 1) p1 (by omega) (by omega)) h
      by_cases eq : q = e
      · subst eq; exact k1
      · exact tr _ _ _ k1 (hr e q hme (by omega) q2)
  have c2 : ∀ p q, m ≤ p → p < e → s ≤ q → q < m → R (D p) (D q) := fun p q p1 p2 q1 q2 => by
    rcases h2 with h | h | h
    · omega
    · omega
    · have k1 : R (D p) (D s) := by
        by_cases ep : p = e - 1
        · subst ep; exact h
        · exact tr _ _ _ (hr p (e - 1) p1 (by omega) (by omega)) h
      by_cases eq : q = s
      · subst eq; exact k1
      · exact tr _ _ _ k1 (hl s q has (by omega) q2)
  refine ⟨?_, ?_, ?_, ?_, ?_⟩
  · intro x y hx hxy hy; rw [g1 x (by omega), g1 y hy]; exact hl x y hx hxy (by omega)
  · intro x y hx hxy hy; rw [g2 x hx (by omega), g2 y (by omega) hy]; exact hr _ _ (by omega) (by omega) (by omega)
  · intro x y hx hxy hy; rw [g3 x hx (by omega), g3 y (by omega) hy]; exact hl _ _ (by omega) (by omega) (by omega)
  · intro x y hx hxy hy; rw [g4 x hx, g4 y (by omega)]; exact hr x y (by omega) hxy hy
  · intro x y hx hxm hym hy
    by_cases cx : x < s
    · rw [g1 x cx]
      by_cases cy : y < e
      · rw [g3 y hym cy]; exact hl _ _ hx (by omega) (by omega)
      · rw [g4 y (by omega)]; exact c1 x y hx cx (by omega) hy
    · rw [g2 x (by omega) hxm]
      by_cases cy : y < e
      · rw [g3 y hym cy]; exact c2 _ _ (by omega) (by omega) (by omega) (by omega)
      · rw [g4 y (by omega)]; exact hr _ _ (by omega) (by omega) hy
omit tr in
/-- Two sorted halves, each of the one ahead of each of the other. -/
theorem joined {a mid b : Nat} {D E F : Nat → Nat} (ham : a ≤ mid) (hmb : mid ≤ b) (hE : Pm a mid D E) (hF : Pm mid b E F) (s1 : Sd R a mid E) (s2 : Sd R mid b F) (hc : ∀ x y, a ≤ x → x < mid → mid ≤ y → y < b → R (D x) (D y)) : Sd R a b F := by
  intro x y hx hxy hy
  by_cases cx : x < mid
  · rw [hF.same (.inl cx)]
    by_cases cy : y < mid
    · rw [hF.same (.inl cy)]; exact s1 x y hx hxy cy
    · have k1 : ∀ p, a ≤ p → p < mid → ∀ q, mid ≤ q → q < b → R (E p) (D q) := fun p p1 p2 q q1 q2 => hE.all (P := fun u => R u (D q)) (fun i i1 i2 => hc i q i1 i2 q1 q2) p p1 p2
      refine hF.all (P := fun u => R (E x) u) (fun q q1 q2 => ?_) y (by omega) hy
      rw [hE.same (.inr q1)]; exact k1 x hx cx q q1 q2
  · exact s2 x y (by omega) hxy hy
end
end Go.Ps
