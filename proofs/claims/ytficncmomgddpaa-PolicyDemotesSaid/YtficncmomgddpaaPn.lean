/- Orders, plain law: no program in sight. -/
import Derived.Test.YtficncmomgddpaaPdm
import Derived.Test.YtficncmomgddpaaPt
import Derived.Test.YtficncmomgddpaaPv
namespace Go.Proofs.Ytficncmomgddpaa
open Go.RowKit Go.Cl Go.Ps
set_option linter.unusedVariables false
set_option linter.unusedSimpArgs false
section
variable {cf : Nat → Nat → Int}
theorem rr_asym (ha : ∀ x y, cf y x = - cf x y) {x y : Nat} (h : RR cf x y) : ¬ RR cf y x := by
  intro k
  have e := ha x y
  rcases h with h | h <;> rcases k with k | k <;> omega
theorem rr_irr (ha : ∀ x y, cf y x = - cf x y) (x : Nat) : ¬ RR cf x x := fun h => rr_asym ha h h
def ahead (cf : Nat → Nat → Int) (x y : Nat) : Bool := decide (cf x y < 0) || (decide (x < y) && !decide (cf y x < 0))
theorem ahead_iff (x y : Nat) : ahead cf x y = true ↔ RR cf x y := by
  unfold ahead RR
  simp [and_comm]
end
theorem anti_cmp (E : Nat → En) : ∀ x y, (E y).cmp (E x) = - (E x).cmp (E y) := fun x y => cmpL_anti _ _ 4 0
theorem anti_dem (E : Nat → En) : ∀ x y, (E y).dem (E x) = - (E x).dem (E y) := fun x y => by rw [dem_eq, dem_eq]; exact cmpL_anti _ _ 2 0
theorem onto : ∀ (n : Nat) (s : Nat → Nat), (∀ i j, i < n → j < n → s i = s j → i = j) → (∀ i, i < n → s i < n) → ∀ a, a < n → ∃ i, i < n ∧ s i = a := by
  intro n
  induction n with
  | zero => intro s _ _ a ha; omega
  | succ n ih =>
    intro s hi hm a ha
    have ht := ih (fun i => if s i = n then s n else s i) (by
      intro i j h1 h2 h3
      split at h3 <;> split at h3 <;> rename_i a1 a2
      · exact hi i j (by omega) (by omega) (by omega)
      · have := hi n j (by omega) (by omega) h3; omega
      · have := hi i n (by omega) (by omega) h3; omega
      · exact hi i j (by omega) (by omega) h3) (by
      intro i h
      split
      · rename_i h3
        have h4 := hm n (by omega)
        have h5 : s n ≠ n := fun e => by have := hi i n (by omega) (by omega) (by omega); omega
        omega
      · have := hm i (by omega); omega)
    by_cases e : s n = n
    · by_cases e2 : a = n
      · exact ⟨n, by omega, by omega⟩
      · obtain ⟨i, h1, h2⟩ := ht a (by omega)
        split at h2
        · exact ⟨n, by omega, h2⟩
        · exact ⟨i, by omega, h2⟩
    · by_cases e2 : a = n
      · obtain ⟨i, h1, h2⟩ := ht (s n) (by have := hm n (by omega); omega)
        split at h2
        · rename_i h3; exact ⟨i, by omega, by omega⟩
        · have := hi i n (by omega) (by omega) h2; omega
      · obtain ⟨i, h1, h2⟩ := ht a (by omega)
        split at h2
        · exact ⟨n, by omega, h2⟩
        · exact ⟨i, by omega, h2⟩
section
variable {n : Nat} {D : Nat → Nat}
theorem pm_inj (h : Pm 0 n (fun k => k) D) : ∀ i j, D i = D j → i = j := by
  obtain ⟨σ, h1, h2, h3, h4⟩ := h
  intro i j e
  rw [h4, h4] at e
  exact h1 _ _ e
theorem pm_mem (h : Pm 0 n (fun k => k) D) : ∀ i, i < n → D i < n := Pm.lt h (Nat.le_refl n) (fun k hk => hk)
theorem pm_onto (h : Pm 0 n (fun k => k) D) : ∀ a, a < n → ∃ i, i < n ∧ D i = a := onto n D (fun i j _ _ => pm_inj h i j) (pm_mem h)
theorem ls_nodup (h : ∀ i j, D i = D j → i = j) (k : Nat) : (ls D k).Nodup := by
  unfold ls List.Nodup
  rw [List.pairwise_map]
  exact List.Pairwise.imp (fun {a b} hab e => hab (h _ _ e)) (List.nodup_range (n := k))
theorem ls_perm (h : Pm 0 n (fun k => k) D) : (List.range n).Perm (ls D n) := by
  refine (List.perm_ext_iff_of_nodup List.nodup_range (ls_nodup (pm_inj h) n)).2 fun a => ?_
  unfold ls
  rw [List.mem_range, List.mem_map]
  constructor
  · intro ha
    obtain ⟨i, h1, h2⟩ := pm_onto h a ha
    exact ⟨i, List.mem_range.2 h1, h2⟩
  · rintro ⟨i, h1, h2⟩
    rw [← h2]; exact pm_mem h i (List.mem_range.1 h1)
end
/-- How many of the first n are so. -/
def cnt (P : Nat → Bool) : Nat → Nat
  | 0 => 0
  | k + 1 => cnt P k + if P k then 1 else 0
theorem cnt_eq (P : Nat → Bool) : ∀ n, cnt P n = (List.range n).countP P := by
  intro n
  induction n with
  | zero => rfl
  | succ n ih => rw [List.range_succ, List.countP_append, ← ih, List.countP_singleton]; rfl
theorem cnt_le (P : Nat → Bool) : ∀ n, cnt P n ≤ n := by
  intro n
  induction n with
  | zero => exact Nat.le_refl _
  | succ n ih => unfold cnt; split <;> omega
theorem cnt_pm {n : Nat} {D : Nat → Nat} (h : Pm 0 n (fun k => k) D) (P : Nat → Bool) : cnt P n = cnt (fun k => P (D k)) n := by
  rw [cnt_eq, cnt_eq]
  have : (List.range n).countP (fun k => P (D k)) = (ls D n).countP P := by unfold ls; rw [List.countP_map]; rfl
  rw [this]
  exact (ls_perm h).countP_eq P
theorem cnt_lt (P : Nat → Bool) (k : Nat) : ∀ n, (∀ m, m < n → P m = decide (m < k)) → cnt P n = min n k := by
  intro n
  induction n with
  | zero => intro _; simp [cnt]
  | succ n ih =>
    intro h
    unfold cnt
    rw [ih (fun m hm => h m (by omega)), h n (by omega)]
    by_cases c : n < k
    · rw [if_pos (by simpa using c)]; omega
    · rw [if_neg (by simpa using c)]; omega
theorem at_eq {cf : Nat → Nat → Int} (ha : ∀ x y, cf y x = - cf x y) {n : Nat} {D : Nat → Nat} (h : Pm 0 n (fun k => k) D) (hs : Sd (RR cf) 0 n D) {k : Nat} (hk : k < n) : cnt (fun j => ahead cf j (D k)) n = k := by
  rw [cnt_pm h, cnt_lt _ k n ?_]
  · omega
  · intro m hm
    by_cases c : m < k
    · rw [decide_eq_true c]; exact (ahead_iff _ _).2 (hs m k (Nat.zero_le _) c hk)
    · rw [decide_eq_false c]
      cases e : ahead cf (D m) (D k) with
      | false => rfl
      | true =>
        have r := (ahead_iff _ _).1 e
        by_cases c2 : m = k
        · subst c2; exact absurd r (rr_irr ha _)
        · exact absurd r (rr_asym ha (hs k m (Nat.zero_le _) (by omega) hm))
/-- Victim is the first in order. -/
theorem vic_least (E : Nat → En) : ∀ k, 0 < k → ∃ v : Nat, vic E k = v ∧ v < k ∧ ∀ j, j < k → j ≠ v → RR (fun x y => (E x).cmp (E y)) v j := by
  intro k
  induction k with
  | zero => intro h; omega
  | succ k ih =>
    intro _
    by_cases h0 : k = 0
    · subst h0
      exact ⟨0, by unfold vic; rw [if_pos (by unfold vic; omega)], by omega, fun j h1 h2 => by omega⟩
    · obtain ⟨v, h1, h2, h3⟩ := ih (by omega)
      unfold vic
      rw [h1, if_neg (by omega), Int.toNat_natCast]
      by_cases c : (E k).cmp (E v) < 0
      · rw [if_pos c]
        refine ⟨k, rfl, by omega, fun j h4 h5 => ?_⟩
        by_cases e : j = v
        · subst e; exact .inl c
        · exact tr_cmp E k v j (.inl c) (h3 j (by omega) e)
      · rw [if_neg c]
        refine ⟨v, rfl, by omega, fun j h4 h5 => ?_⟩
        by_cases e : j = k
        · subst e; exact .inr ⟨c, h2⟩
        · exact h3 j (by omega) h5
theorem vic_first {n : Nat} {D : Nat → Nat} {E : Nat → En} (h : Pm 0 n (fun k => k) D) (hs : Sd (RR (fun x y => (E x).cmp (E y))) 0 n D) (hn : 0 < n) : vic E n = (D 0 : Int) := by
  obtain ⟨v, h1, h2, h3⟩ := vic_least E n hn
  rw [h1]
  by_cases e : D 0 = v
  · rw [e]
  · have r := h3 (D 0) (pm_mem h 0 hn) e
    obtain ⟨m, h4, h5⟩ := pm_onto h v h2
    have h6 : 0 < m := by
      rcases Nat.eq_zero_or_pos m with e2 | e2
      · subst e2; exact absurd h5 e
      · exact e2
    have r2 := hs 0 m (Nat.le_refl _) h6 h4
    rw [h5] at r2
    exact absurd r2 (rr_asym (anti_cmp E) r)
/-- The hot ones, in order. -/
structure Hots (E : Nat → En) (n : Nat) (F : Nat → Nat) (k : Nat) : Prop where
  lt : ∀ i, i < k → F i < n
  hot : ∀ i, i < k → (E (F i)).hot = true
  inj : ∀ i j, i < j → j < k → F i ≠ F j
  sd : ∀ i j, i < j → j < k → RR (fun x y => (E x).dem (E y)) (F i) (F j)
  all : ∀ x, x < n → (E x).hot = true → ∃ i, i < k ∧ F i = x
  cnt : cnt (hots E) n = k
theorem ls_len (F : Nat → Nat) (k : Nat) : (ls F k).length = k := by unfold ls; simp
theorem ls_pw {R : Nat → Nat → Prop} {F : Nat → Nat} {k : Nat} : (ls F k).Pairwise R ↔ ∀ i j, i < j → j < k → R (F i) (F j) := by
  rw [List.pairwise_iff_getElem]
  constructor
  · intro h i j h1 h2
    have := h i j (by rw [ls_len]; omega) (by rw [ls_len]; omega) h1
    simpa [ls] using this
  · intro h i j h1 h2 h3
    rw [ls_len] at h1 h2
    have := h i j h3 h2
    simpa [ls] using this
theorem hots_of {E : Nat → En} {n k : Nat} {D F : Nat → Nat} (h : Pm 0 n (fun k => k) D) (hs : Sd (RR (fun x y => (E x).dem (E y))) 0 n D) (hl : ls F k = (ls D n).filter (hots E)) : Hots E n F k := by
  have hm : ∀ i, i < k → F i ∈ (ls D n).filter (hots E) := fun i hi => by
    rw [← hl]; unfold ls; exact List.mem_map.2 ⟨i, List.mem_range.2 hi, rfl⟩
  have hmm : ∀ i, i < k → ∃ j, j < n ∧ D j = F i := fun i hi => by
    have := (List.mem_filter.1 (hm i hi)).1
    unfold ls at this
    obtain ⟨j, h1, h2⟩ := List.mem_map.1 this
    exact ⟨j, List.mem_range.1 h1, h2⟩
  refine ⟨fun i hi => ?_, fun i hi => ?_, ?_, ?_, fun x hx hh => ?_, ?_⟩
  · obtain ⟨j, h1, h2⟩ := hmm i hi
    rw [← h2]; exact pm_mem h j h1
  · exact (List.mem_filter.1 (hm i hi)).2
  · have : (ls F k).Nodup := by rw [hl]; exact List.Pairwise.filter _ (ls_nodup (pm_inj h) n)
    exact ls_pw.1 this
  · have h1 : (ls D n).Pairwise (RR (fun x y => (E x).dem (E y))) := ls_pw.2 fun i j h1 h2 => hs i j (Nat.zero_le _) h1 h2
    have h2 := List.Pairwise.filter (hots E) h1
    rw [← hl] at h2
    exact ls_pw.1 h2
  · obtain ⟨j, h1, h2⟩ := pm_onto h x hx
    have h3 : x ∈ (ls D n).filter (hots E) := List.mem_filter.2 ⟨by unfold ls; exact List.mem_map.2 ⟨j, List.mem_range.2 h1, h2⟩, hh⟩
    rw [← hl] at h3
    unfold ls at h3
    obtain ⟨i, h4, h5⟩ := List.mem_map.1 h3
    exact ⟨i, List.mem_range.1 h4, h5⟩
  · rw [cnt_eq, (ls_perm h).countP_eq, List.countP_eq_length_filter, ← hl, ls_len]
/-- The least hot one that is not gone. -/
def bst (E : Nat → En) (G : Nat → Bool) : Nat → Int
  | 0 => -1
  | k + 1 => if (E k).hot = true ∧ G k = false ∧ (bst E G k < 0 ∨ (E k).dem (E (bst E G k).toNat) < 0) then (k : Int) else bst E G k
theorem bst_in (E : Nat → En) (G : Nat → Bool) : ∀ k, bst E G k = -1 ∨ (0 ≤ bst E G k ∧ bst E G k < k) := by
  intro k
  induction k with
  | zero => exact .inl rfl
  | succ k ih =>
    unfold bst
    split
    · right; omega
    · omega
theorem bst_least (E : Nat → En) (G : Nat → Bool) : ∀ k, (bst E G k = -1 ∧ ∀ j, j < k → (E j).hot = true → G j = true) ∨ ∃ v : Nat, bst E G k = v ∧ v < k ∧ (E v).hot = true ∧ G v = false ∧ ∀ j, j < k → (E j).hot = true → G j = false → j ≠ v → RR (fun x y => (E x).dem (E y)) v j := by
  intro k
  induction k with
  | zero => exact .inl ⟨rfl, fun j h => by omega⟩
  | succ k ih =>
    by_cases c1 : (E k).hot = true
    · by_cases c2 : G k = false
      · rcases ih with ⟨h1, h2⟩ | ⟨v, h1, h2, h3, h4, h5⟩
        · right
          refine ⟨k, by unfold bst; rw [if_pos ⟨c1, c2, .inl (by omega)⟩], by omega, c1, c2, fun j j1 j2 j3 j4 => ?_⟩
          have := h2 j (by omega) j2
          rw [j3] at this; cases this
        · right
          unfold bst
          rw [h1, Int.toNat_natCast]
          by_cases c3 : (E k).dem (E v) < 0
          · rw [if_pos ⟨c1, c2, .inr c3⟩]
            refine ⟨k, rfl, by omega, c1, c2, fun j j1 j2 j3 j4 => ?_⟩
            by_cases e : j = v
            · subst e; exact .inl c3
            · exact tr_dem E k v j (.inl c3) (h5 j (by omega) j2 j3 e)
          · rw [if_neg (by rintro ⟨_, _, h | h⟩ <;> omega)]
            refine ⟨v, rfl, by omega, h3, h4, fun j j1 j2 j3 j4 => ?_⟩
            by_cases e : j = k
            · subst e; exact .inr ⟨c3, h2⟩
            · exact h5 j (by omega) j2 j3 j4
      · have c2' : G k = true := by simpa using c2
        have hb : bst E G (k + 1) = bst E G k := by rw [bst, if_neg (by rintro ⟨_, h, _⟩; exact c2 h)]
        rw [hb]
        rcases ih with ⟨h1, h2⟩ | ⟨v, h1, h2, h3, h4, h5⟩
        · exact .inl ⟨h1, fun j j1 j2 => by
            by_cases e : j = k
            · rw [e]; exact c2'
            · exact h2 j (by omega) j2⟩
        · refine .inr ⟨v, h1, by omega, h3, h4, fun j j1 j2 j3 j4 => ?_⟩
          by_cases e : j = k
          · subst e; rw [c2'] at j3; cases j3
          · exact h5 j (by omega) j2 j3 j4
    · have hb : bst E G (k + 1) = bst E G k := by rw [bst, if_neg (by rintro ⟨h, _⟩; exact c1 h)]
      rw [hb]
      rcases ih with ⟨h1, h2⟩ | ⟨v, h1, h2, h3, h4, h5⟩
      · exact .inl ⟨h1, fun j j1 j2 => by
          by_cases e : j = k
          · subst e; exact absurd j2 c1
          · exact h2 j (by omega) j2⟩
      · refine .inr ⟨v, h1, by omega, h3, h4, fun j j1 j2 j3 j4 => ?_⟩
        by_cases e : j = k
        · subst e; exact absurd j2 c1
        · exact h5 j (by omega) j2 j3 j4
/-- Of the hot ones not among the first t, the least is the next. -/
theorem bst_next {E : Nat → En} {n k t : Nat} {F : Nat → Nat} (h : Hots E n F k) (ht : t < k) {G : Nat → Bool} (hG : ∀ x, x < n → (G x = true ↔ ∃ i, i < t ∧ F i = x)) : bst E G n = (F t : Int) := by
  have g1 : G (F t) = false := by
    cases e : G (F t) with
    | false => rfl
    | true =>
      obtain ⟨i, h1, h2⟩ := (hG _ (h.lt t ht)).1 e
      exact absurd h2 (h.inj i t h1 ht)
  rcases bst_least E G n with ⟨h1, h2⟩ | ⟨v, h1, h2, h3, h4, h5⟩
  · have := h2 (F t) (h.lt t ht) (h.hot t ht)
    rw [g1] at this; cases this
  · rw [h1]
    obtain ⟨s, s1, s2⟩ := h.all v h2 h3
    by_cases e : s = t
    · rw [← s2, e]
    · have s3 : t < s := by
        rcases Nat.lt_or_ge s t with c | c
        · have := (hG v h2).2 ⟨s, c, s2⟩
          rw [h4] at this; cases this
        · omega
      have r := h.sd t s s3 s1
      rw [s2] at r
      by_cases e2 : F t = v
      · rw [e2]
      · exact absurd r (rr_asym (anti_dem E) (h5 (F t) (h.lt t ht) (h.hot t ht) g1 e2))
end Go.Proofs.Ytficncmomgddpaa
