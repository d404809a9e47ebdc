/- Numbers, truths and texts as bytes: plain law; no program in sight. -/
namespace Go.Wr
/-- A number's form: a count. -/
def zz (n : Int) : Nat := if 0 ≤ n then (2 * n).toNat else (-2 * n - 1).toNat
def uz (u : Nat) : Int := if u % 2 = 0 then ((u / 2 : Nat) : Int) else -((u / 2 : Nat) : Int) - 1
theorem uz_zz (n : Int) : uz (zz n) = n := by
  unfold uz zz; split <;> split <;> omega
theorem zz_uz (u : Nat) : zz (uz u) = u := by
  unfold uz zz; split <;> split <;> omega
theorem zz_lt {n : Int} (h1 : -9223372036854775808 ≤ n) (h2 : n ≤ 9223372036854775807) : zz n < 18446744073709551616 := by
  unfold zz; split <;> omega
theorem uz_in {u : Nat} (h : u < 18446744073709551616) : -9223372036854775808 ≤ uz u ∧ uz u ≤ 9223372036854775807 := by
  unfold uz; split <;> omega
def byt (n : Nat) : UInt8 := UInt8.ofNat n
theorem byt_nat {n : Nat} (h : n < 256) : (byt n).toNat = n := by unfold byt; simp; omega
theorem byt_of (b : UInt8) : byt b.toNat = b := by unfold byt; simp
theorem byt_eq {n : Nat} {b : UInt8} (h : b.toNat = n) : byt n = b := by subst h; exact byt_of b
def num (u : Nat) : List UInt8 := if u < 128 then [byt u] else byt (128 + u % 128) :: num (u / 128)
decreasing_by omega
theorem num_lo {u : Nat} (h : u < 128) : num u = [byt u] := by unfold num; rw [if_pos h]
theorem num_hi {u : Nat} (h : 128 ≤ u) : num u = byt (128 + u % 128) :: num (u / 128) := by rw [num, if_neg (by omega)]
/-- What is read from round i on, u laid together so far: an error, or the whole and the rounds. -/
def lk (i u : Nat) : List UInt8 → Nat ⊕ (Nat × Nat)
  | [] => if i = 10 then .inl 11 else .inl 10
  | b :: r => if i = 10 then .inl 11 else if (0 < i ∧ b.toNat = 0) ∨ (i = 9 ∧ b.toNat ≠ 1) then .inl 11
    else if b.toNat < 128 then .inr (u + 128 ^ i * (b.toNat % 128), i + 1) else lk (i + 1) (u + 128 ^ i * (b.toNat % 128)) r
theorem lk_num : ∀ (v i u : Nat) (t : List UInt8), i < 10 → (0 < i → 0 < v) → 128 ^ i * v < 18446744073709551616 →
    lk i u (num v ++ t) = .inr (u + 128 ^ i * v, i + (num v).length) := by
  intro v
  induction v using Nat.strongRecOn with
  | ind v ih =>
    intro i u t hi hv hb
    by_cases h : v < 128
    · rw [num_lo h]
      have hn : (byt v).toNat = v := byt_nat (by omega)
      have h9 : i = 9 → v ≤ 1 := by rintro rfl; omega
      simp only [List.cons_append, List.nil_append, lk, hn]
      rw [if_neg (by omega), if_neg (by intro hh; rcases hh with ⟨h1, h2⟩ | ⟨h1, h2⟩; exact absurd (hv h1) (by omega); have := h9 h1; have := hv (by omega); omega), if_pos h]
      rw [Nat.mod_eq_of_lt h]; rfl
    · rw [num_hi (by omega)]
      have hn : (byt (128 + v % 128)).toNat = 128 + v % 128 := byt_nat (by omega)
      have h9 : i ≠ 9 := by rintro rfl; omega
      simp only [List.cons_append, lk, hn]
      rw [if_neg (by omega), if_neg (by omega), if_neg (by omega)]
      have hm : (128 + v % 128) % 128 = v % 128 := by omega
      rw [hm]
      have hp : 128 ^ (i + 1) * (v / 128) + 128 ^ i * (v % 128) = 128 ^ i * v := by
        rw [Nat.pow_succ, Nat.mul_assoc, ← Nat.mul_add, Nat.div_add_mod]
      rw [ih (v / 128) (by omega) (i + 1) _ t (by omega) (by omega) (by omega)]
      rw [List.length_cons]
      congr 2 <;> omega
theorem lk_short : ∀ (v i u k : Nat), i < 10 → (0 < i → 0 < v) → 128 ^ i * v < 18446744073709551616 → k < (num v).length →
    lk i u ((num v).take k) = .inl 10 := by
  intro v
  induction v using Nat.strongRecOn with
  | ind v ih =>
    intro i u k hi hv hb hk
    cases k with
    | zero => simp [lk]; omega
    | succ k =>
      by_cases h : v < 128
      · rw [num_lo h] at hk; simp at hk
      · rw [num_hi (by omega)] at hk ⊢
        have hn : (byt (128 + v % 128)).toNat = 128 + v % 128 := byt_nat (by omega)
        have h9 : i ≠ 9 := by rintro rfl; omega
        simp only [List.take_succ_cons, lk, hn]
        rw [if_neg (by omega), if_neg (by omega), if_neg (by omega)]
        have hm : (128 + v % 128) % 128 = v % 128 := by omega
        rw [hm]
        have hp : 128 ^ (i + 1) * (v / 128) + 128 ^ i * (v % 128) = 128 ^ i * v := by
          rw [Nat.pow_succ, Nat.mul_assoc, ← Nat.mul_add, Nat.div_add_mod]
        exact ih (v / 128) (by omega) (i + 1) _ k (by omega) (by omega) (by omega) (by simpa using hk)
theorem lk_back : ∀ (r : List UInt8) (i u u' n : Nat), i ≤ 10 → lk i u r = .inr (u', n) → ∃ v, u' = u + 128 ^ i * v ∧ i < n ∧ n ≤ 10 ∧ n - i ≤ r.length ∧ r.take (n - i) = num v ∧ (0 < i → 0 < v) ∧ 128 ^ i * v < 18446744073709551616 := by
  intro r
  induction r with
  | nil => intro i u u' n _ h; simp only [lk] at h; split at h <;> simp at h
  | cons b r ih =>
    intro i u u' n hi h
    simp only [lk] at h
    split at h
    · simp at h
    · split at h
      · simp at h
      · rename_i h10 hbad
        have hb := b.toNat_lt
        have hlt : i ≤ 9 := by omega
        split at h
        · rename_i hlo
          simp only [Sum.inr.injEq, Prod.mk.injEq] at h
          obtain ⟨rfl, rfl⟩ := h
          refine ⟨b.toNat, by rw [Nat.mod_eq_of_lt hlo], by omega, by omega, by simp, ?_, by omega, ?_⟩
          · rw [num_lo hlo, byt_of, Nat.add_sub_cancel_left]; simp
          · by_cases h9 : i = 9
            · subst h9; have : b.toNat = 1 := by omega
              rw [this]; decide
            · have : 128 ^ i ≤ 128 ^ 8 := Nat.pow_le_pow_right (by decide) (by omega)
              have h2 : 128 ^ i * b.toNat ≤ 128 ^ 8 * b.toNat := Nat.mul_le_mul_right _ this
              have h3 : (128 : Nat) ^ 8 = 72057594037927936 := by decide
              omega
        · rename_i hhi
          obtain ⟨v, h1, h2, h2', h3, h4, h5, h6⟩ := ih (i + 1) _ u' n (by omega) h
          have hv := h5 (by omega)
          have hp : 128 ^ (i + 1) * v + 128 ^ i * (b.toNat % 128) = 128 ^ i * (128 * v + b.toNat % 128) := by
            rw [Nat.pow_succ, Nat.mul_assoc, ← Nat.mul_add]
          refine ⟨128 * v + b.toNat % 128, by omega, by omega, h2', by simp; omega, ?_, by omega, ?_⟩
          · have e : n - i = (n - (i + 1)) + 1 := by omega
            rw [e, List.take_succ_cons, h4, num_hi (u := 128 * v + b.toNat % 128) (by omega)]
            rw [show (128 * v + b.toNat % 128) % 128 = b.toNat % 128 by omega, show (128 * v + b.toNat % 128) / 128 = v by omega]
            rw [byt_eq (b := b) (by omega)]
          · rw [← hp]
            have : 128 ^ i * (b.toNat % 128) < 128 ^ (i + 1) := by
              rw [Nat.pow_succ]; exact Nat.mul_lt_mul_of_pos_left (by omega) (Nat.pow_pos (by decide))
            have hi8 : i ≤ 8 := by omega
            rw [show 128 ^ (i + 1) * v = 128 ^ (i + 1) * (v - 1) + 128 ^ (i + 1) from by rw [← Nat.mul_succ]; congr 1; omega]
            by_cases he : i = 8
            · subst he
              have e9 : (128 : Nat) ^ (8 + 1) = 9223372036854775808 := by decide
              rw [e9] at h6 this ⊢
              have : v = 1 := by omega
              subst this; omega
            · rw [show 128 ^ (i + 1) * v = 128 ^ (i + 1) * (v - 1) + 128 ^ (i + 1) from by rw [← Nat.mul_succ]; congr 1; omega] at h6
              have hd : 128 ^ (i + 1) * (v - 1) + 128 ^ (i + 1) < 18446744073709551616 := h6
              -- a multiple of 128^(i+1) below 2^64 = 128^(i+1) * 2^(64-7(i+1))
              have hw : (18446744073709551616 : Nat) = 128 ^ (i + 1) * 2 ^ (64 - 7 * (i + 1)) := by
                rw [show (128 : Nat) = 2 ^ 7 by decide, ← Nat.pow_mul, ← Nat.pow_add]
                rw [show 7 * (i + 1) + (64 - 7 * (i + 1)) = 64 by omega]
              rw [hw] at hd ⊢
              have hq : 128 ^ (i + 1) * (v - 1) + 128 ^ (i + 1) = 128 ^ (i + 1) * v := by rw [← Nat.mul_succ]; congr 1; omega
              rw [hq] at hd
              have hvlt : v < 2 ^ (64 - 7 * (i + 1)) := Nat.lt_of_mul_lt_mul_left hd
              have := Nat.mul_le_mul_left (128 ^ (i + 1)) (show v + 1 ≤ 2 ^ (64 - 7 * (i + 1)) by omega)
              rw [Nat.mul_succ] at this
              omega
theorem num_len_pos (u : Nat) : 0 < (num u).length := by
  unfold num; split <;> simp

/-- A reader: bytes, how many were taken off, the error. -/
structure St where
  at_ : Nat
  e : Nat
def number (s : List UInt8) (at_ : Nat) : Nat ⊕ (Int × Nat) :=
  match lk 0 0 (s.drop at_) with
  | .inl e => .inl e
  | .inr (u, n) => .inr (uz u, at_ + n)
def rNum (s : List UInt8) (t : St) : Int × St :=
  if t.e = 0 then match number s t.at_ with | .inl e => (0, ⟨t.at_, e⟩) | .inr (n, a) => (n, ⟨a, 0⟩) else (0, t)
def rBool (s : List UInt8) (t : St) : Bool × St :=
  if t.e = 0 then match s.drop t.at_ with
    | [] => (false, ⟨t.at_, 10⟩)
    | b :: _ => if 1 < b.toNat then (false, ⟨t.at_, 11⟩) else (b.toNat == 1, ⟨t.at_ + 1, 0⟩)
  else (false, t)
def rText (s : List UInt8) (most : Int) (t : St) : List UInt8 × St :=
  if t.e = 0 then match number s t.at_ with
    | .inl e => ([], ⟨t.at_, e⟩)
    | .inr (n, a) => if n < 0 ∨ max most 0 < n then ([], ⟨t.at_, 11⟩) else if (s.length : Int) - a < n then ([], ⟨t.at_, 10⟩) else ((s.drop a).take n.toNat, ⟨a + n.toNat, 0⟩)
  else ([], t)
def rEnd (s : List UInt8) (t : St) : Nat := if t.e = 0 then if t.at_ < s.length then 12 else 0 else t.e
theorem number_in {s : List UInt8} {a : Nat} {n : Int} {a' : Nat} (h : number s a = .inr (n, a')) (ha : a ≤ s.length) :
    a < a' ∧ a' ≤ s.length ∧ a' ≤ a + 10 ∧ -9223372036854775808 ≤ n ∧ n ≤ 9223372036854775807 ∧ (s.drop a).take (a' - a) = num (zz n) := by
  unfold number at h
  split at h
  · simp at h
  · rename_i u k hl
    simp only [Sum.inr.injEq, Prod.mk.injEq] at h
    obtain ⟨rfl, rfl⟩ := h
    obtain ⟨v, h1, h2, h3, h4, h5, h6, h7⟩ := lk_back _ _ _ _ _ (by omega) hl
    simp only [Nat.pow_zero, Nat.one_mul, Nat.zero_add] at h1 h7
    subst h1
    have := uz_in h7
    simp only [List.length_drop] at h4
    refine ⟨by omega, by omega, by omega, this.1, this.2, ?_⟩
    rw [zz_uz, Nat.add_sub_cancel_left]
    simpa using h5
theorem number_err {s : List UInt8} {a e : Nat} (h : number s a = .inl e) : e = 10 ∨ e = 11 := by
  have key : ∀ (r : List UInt8) (i u e : Nat), lk i u r = .inl e → e = 10 ∨ e = 11 := by
    intro r
    induction r with
    | nil => intro i u e h; simp only [lk] at h; split at h <;> simp at h <;> omega
    | cons b r ih =>
      intro i u e h
      simp only [lk] at h
      split at h
      · simp at h; omega
      · split at h
        · simp at h; omega
        · split at h
          · simp at h
          · exact ih _ _ _ h
  unfold number at h
  split at h
  · rename_i e' hl
    simp at h; subst h
    exact key _ _ _ _ hl
  · simp at h
/-- Bytes that are written, one after another, are read as they were written. -/
theorem drop_pre (pre t : List UInt8) : (pre ++ t).drop pre.length = t := by simp
theorem number_of {n : Int} (h1 : -9223372036854775808 ≤ n) (h2 : n ≤ 9223372036854775807) (pre t : List UInt8) :
    number (pre ++ (num (zz n) ++ t)) pre.length = .inr (n, pre.length + (num (zz n)).length) := by
  unfold number
  rw [drop_pre, lk_num _ _ _ _ (by decide) (by omega) (by have := zz_lt h1 h2; simpa using this)]
  simp only [Nat.pow_zero, Nat.one_mul, Nat.zero_add, uz_zz]
theorem number_cut {n : Int} (h1 : -9223372036854775808 ≤ n) (h2 : n ≤ 9223372036854775807) (pre : List UInt8) (k : Nat) (hk : k < (num (zz n)).length) :
    number (pre ++ (num (zz n)).take k) pre.length = .inl 10 := by
  unfold number
  rw [drop_pre, lk_short _ _ _ _ (by decide) (by omega) (by have := zz_lt h1 h2; simpa using this) hk]
/-- One thing that is written, or read. -/
structure Thing where
  k : Int
  n : Int
  s : List UInt8
  most : Int
def bit (n : Int) : Bool := decide (n % 2 = 1)
def bol (b : Bool) : List UInt8 := if b then [1] else [0]
def txt (s : List UInt8) : List UInt8 := num (zz s.length) ++ s
def enc (o : Thing) : List UInt8 := if o.k % 4 = 0 then num (zz o.n) else if o.k % 4 = 1 then bol (bit o.n) else if o.k % 4 = 2 then txt o.s else []
/-- The state behind one reading; the reading is right if it tells what was written. -/
def after (s : List UInt8) (o : Thing) (t : St) : St := if o.k % 4 = 0 then (rNum s t).2 else if o.k % 4 = 1 then (rBool s t).2 else if o.k % 4 = 2 then (rText s o.s.length t).2 else t
def right (s : List UInt8) (o : Thing) (t : St) : Prop := (o.k % 4 = 0 → (rNum s t).1 = o.n) ∧ (o.k % 4 = 1 → (rBool s t).1 = bit o.n) ∧ (o.k % 4 = 2 → (rText s o.s.length t).1 = o.s)
structure Ok (o : Thing) : Prop where
  k0 : 0 ≤ o.k
  n1 : -9223372036854775808 ≤ o.n
  n2 : o.n ≤ 9223372036854775807
  s : o.s.length ≤ 9223372036854775807
theorem bit_read (b : Bool) (pre t : List UInt8) : rBool (pre ++ (bol b ++ t)) ⟨pre.length, 0⟩ = (b, ⟨pre.length + (bol b).length, 0⟩) := by
  unfold rBool bol
  cases b <;> simp
theorem text_read (s : List UInt8) (hs : s.length ≤ 9223372036854775807) (pre t : List UInt8) (most : Int) (hm : (s.length : Int) ≤ most) :
    rText (pre ++ (txt s ++ t)) most ⟨pre.length, 0⟩ = (s, ⟨pre.length + (txt s).length, 0⟩) := by
  unfold rText txt
  have e : pre ++ (num (zz s.length) ++ s ++ t) = pre ++ (num (zz s.length) ++ (s ++ t)) := by simp
  rw [if_pos rfl, e, number_of (by omega) (by omega)]
  simp only
  rw [if_neg (by omega), if_neg (by simp only [List.length_append]; omega)]
  have e2 : pre ++ (num (zz s.length) ++ (s ++ t)) = (pre ++ num (zz s.length)) ++ (s ++ t) := by simp
  have e3 : pre.length + (num (zz s.length)).length = (pre ++ num (zz s.length)).length := by simp
  rw [e2, e3, drop_pre]
  simp only [Int.toNat_natCast, List.take_left, List.length_append]
  rw [show pre.length + ((num (zz s.length)).length + s.length) = pre.length + (num (zz s.length)).length + s.length by omega]
theorem num_read {n : Int} (h1 : -9223372036854775808 ≤ n) (h2 : n ≤ 9223372036854775807) (pre t : List UInt8) : rNum (pre ++ (num (zz n) ++ t)) ⟨pre.length, 0⟩ = (n, ⟨pre.length + (num (zz n)).length, 0⟩) := by
  unfold rNum
  rw [if_pos rfl, number_of h1 h2]
theorem enc_0 {o : Thing} (e : o.k % 4 = 0) : enc o = num (zz o.n) := if_pos e
theorem enc_1 {o : Thing} (e : o.k % 4 = 1) : enc o = bol (bit o.n) := by unfold enc; rw [if_neg (by omega), if_pos e]
theorem enc_2 {o : Thing} (e : o.k % 4 = 2) : enc o = txt o.s := by unfold enc; rw [if_neg (by omega), if_neg (by omega), if_pos e]
theorem enc_3 {o : Thing} (e : o.k % 4 = 3) : enc o = [] := by unfold enc; rw [if_neg (by omega), if_neg (by omega), if_neg (by omega)]
theorem after_0 {s : List UInt8} {o : Thing} {t : St} (e : o.k % 4 = 0) : after s o t = (rNum s t).2 := if_pos e
theorem after_1 {s : List UInt8} {o : Thing} {t : St} (e : o.k % 4 = 1) : after s o t = (rBool s t).2 := by unfold after; rw [if_neg (by omega), if_pos e]
theorem after_2 {s : List UInt8} {o : Thing} {t : St} (e : o.k % 4 = 2) : after s o t = (rText s o.s.length t).2 := by unfold after; rw [if_neg (by omega), if_neg (by omega), if_pos e]
theorem after_3 {s : List UInt8} {o : Thing} {t : St} (e : o.k % 4 = 3) : after s o t = t := by unfold after; rw [if_neg (by omega), if_neg (by omega), if_neg (by omega)]
theorem read_whole (o : Thing) (h : Ok o) (pre t : List UInt8) :
    right (pre ++ (enc o ++ t)) o ⟨pre.length, 0⟩ ∧ after (pre ++ (enc o ++ t)) o ⟨pre.length, 0⟩ = ⟨pre.length + (enc o).length, 0⟩ := by
  have hk := h.k0
  unfold right
  rcases (by omega : o.k % 4 = 0 ∨ o.k % 4 = 1 ∨ o.k % 4 = 2 ∨ o.k % 4 = 3) with e | e | e | e
  · rw [after_0 e, enc_0 e, num_read h.n1 h.n2]
    exact ⟨⟨fun _ => rfl, fun e' => by omega, fun e' => by omega⟩, rfl⟩
  · rw [after_1 e, enc_1 e, bit_read]
    exact ⟨⟨fun e' => by omega, fun _ => rfl, fun e' => by omega⟩, rfl⟩
  · rw [after_2 e, enc_2 e, text_read o.s h.s pre t o.s.length (by omega)]
    exact ⟨⟨fun e' => by omega, fun e' => by omega, fun _ => rfl⟩, rfl⟩
  · rw [after_3 e, enc_3 e]
    exact ⟨⟨fun e' => by omega, fun e' => by omega, fun e' => by omega⟩, rfl⟩
/-- Where the bytes end ahead of the thing's end: short. -/
theorem read_cut (o : Thing) (h : Ok o) (pre : List UInt8) (k : Nat) (hk : k < (enc o).length) :
    (after (pre ++ (enc o).take k) o ⟨pre.length, 0⟩).e = 10 := by
  have hk0 := h.k0
  have hs := h.s
  rcases (by omega : o.k % 4 = 0 ∨ o.k % 4 = 1 ∨ o.k % 4 = 2 ∨ o.k % 4 = 3) with e | e | e | e
  · rw [enc_0 e] at hk
    rw [after_0 e, enc_0 e]
    unfold rNum
    rw [if_pos rfl, number_cut h.n1 h.n2 _ _ hk]
  · rw [enc_1 e] at hk
    rw [after_1 e, enc_1 e]
    have : k = 0 := by unfold bol at hk; split at hk <;> simp at hk <;> omega
    subst this
    simp [rBool]
  · rw [enc_2 e] at hk
    rw [after_2 e, enc_2 e]
    unfold txt at hk ⊢
    rw [List.length_append] at hk
    unfold rText
    rw [if_pos rfl]
    by_cases hn : k < (num (zz o.s.length)).length
    · rw [List.take_append_of_le_length (by omega), number_cut (by omega) (by omega) _ _ hn]
    · have e1 : (num (zz o.s.length) ++ o.s).take k = num (zz o.s.length) ++ o.s.take (k - (num (zz o.s.length)).length) := by
        rw [List.take_append, List.take_of_length_le (by omega)]
      rw [e1, number_of (by omega) (by omega)]
      simp only
      rw [if_neg (by omega), if_pos (by simp only [List.length_append, List.length_take]; omega)]
  · rw [enc_3 e] at hk; simp at hk
theorem after_err (s : List UInt8) (o : Thing) (t : St) (h : t.e = 10) : (after s o t).e = 10 := by
  unfold after rNum rBool rText
  have : t.e ≠ 0 := by omega
  simp only [if_neg this]
  split <;> (try split) <;> (try split) <;> exact h

/-- What was taken off without an error, written anew, is what was taken off. -/
theorem form_num {s : List UInt8} {t : St} (hs : t.at_ ≤ s.length) (h0 : t.e = 0) (h : (rNum s t).2.e = 0) :
    s.take (rNum s t).2.at_ = s.take t.at_ ++ num (zz (rNum s t).1) ∧ (rNum s t).2.at_ ≤ s.length ∧ -9223372036854775808 ≤ (rNum s t).1 ∧ (rNum s t).1 ≤ 9223372036854775807 := by
  unfold rNum at h ⊢
  rw [if_pos h0] at h ⊢
  split at h
  · rename_i e he
    have := number_err he
    simp at h; omega
  · rename_i n a hn
    obtain ⟨h1, h2, h3, h4, h5, h6⟩ := number_in hn hs
    simp only
    refine ⟨?_, h2, h4, h5⟩
    rw [← h6, ← List.take_add]
    congr 1; omega
theorem form_bool {s : List UInt8} {t : St} (_hs : t.at_ ≤ s.length) (h0 : t.e = 0) (h : (rBool s t).2.e = 0) :
    s.take (rBool s t).2.at_ = s.take t.at_ ++ bol (rBool s t).1 ∧ (rBool s t).2.at_ ≤ s.length := by
  unfold rBool at h ⊢
  rw [if_pos h0] at h ⊢
  cases hd : s.drop t.at_ with
  | nil => rw [hd] at h; simp at h
  | cons b r =>
    rw [hd] at h
    have hl : t.at_ < s.length := by
      rcases Nat.lt_or_ge t.at_ s.length with h1 | h1
      · exact h1
      · rw [List.drop_of_length_le h1] at hd; simp at hd
    simp only at h ⊢
    split at h
    · simp at h
    · rename_i hb
      rw [if_neg hb]
      refine ⟨?_, hl⟩
      simp only
      rw [List.take_add, hd]
      congr 1
      unfold bol
      have hb2 := b.toNat_lt
      rcases (by omega : b.toNat = 0 ∨ b.toNat = 1) with e | e
      · have : b = 0 := by rw [← UInt8.toNat_inj]; exact e
        subst this; simp
      · have : b = 1 := by rw [← UInt8.toNat_inj]; exact e
        subst this; simp
theorem form_text {s : List UInt8} {most : Int} {t : St} (hs : t.at_ ≤ s.length) (h0 : t.e = 0) (h : (rText s most t).2.e = 0) :
    s.take (rText s most t).2.at_ = s.take t.at_ ++ txt (rText s most t).1 ∧ (rText s most t).2.at_ ≤ s.length := by
  unfold rText at h ⊢
  rw [if_pos h0] at h ⊢
  split at h
  · rename_i e he
    have := number_err he
    simp at h; omega
  · rename_i n a hn
    obtain ⟨h1, h2, h3, h4, h5, h6⟩ := number_in hn hs
    split at h
    · simp at h
    · split at h
      · simp at h
      · rename_i c1 c2
        rw [if_neg c1, if_neg c2]
        have hn0 : 0 ≤ n := by omega
        have hl : ((s.drop a).take n.toNat).length = n.toNat := by simp; omega
        refine ⟨?_, by simp only; omega⟩
        unfold txt
        simp only [hl]
        rw [show ((n.toNat : Nat) : Int) = n by omega, ← h6, ← List.append_assoc, ← List.take_add, show t.at_ + (a - t.at_) = a by omega, ← List.take_add]
/-- No step back, none beyond the end; an error, if any, is one of two. -/
structure St.Ok (s : List UInt8) (t : St) : Prop where
  at_ : t.at_ ≤ s.length
  e : t.e = 0 ∨ t.e = 10 ∨ t.e = 11
theorem ok_num {s : List UInt8} {t : St} (h : t.Ok s) : ((rNum s t).2).Ok s ∧ -9223372036854775808 ≤ (rNum s t).1 ∧ (rNum s t).1 ≤ 9223372036854775807 := by
  unfold rNum
  split
  · split
    · rename_i e he; exact ⟨⟨h.at_, .inr (number_err he)⟩, by simp, by simp⟩
    · rename_i n a hn
      obtain ⟨h1, h2, h3, h4, h5, h6⟩ := number_in hn h.at_
      exact ⟨⟨h2, .inl rfl⟩, h4, h5⟩
  · exact ⟨h, by simp, by simp⟩
theorem ok_bool {s : List UInt8} {t : St} (h : t.Ok s) : ((rBool s t).2).Ok s := by
  unfold rBool
  split
  · split
    · exact ⟨h.at_, .inr (.inl rfl)⟩
    · rename_i b r hd
      have hl : t.at_ < s.length := by
        rcases Nat.lt_or_ge t.at_ s.length with h1 | h1
        · exact h1
        · rw [List.drop_of_length_le h1] at hd; simp at hd
      split
      · exact ⟨h.at_, .inr (.inr rfl)⟩
      · exact ⟨hl, .inl rfl⟩
  · exact h
theorem ok_text {s : List UInt8} {most : Int} {t : St} (h : t.Ok s) : ((rText s most t).2).Ok s := by
  unfold rText
  split
  · split
    · rename_i e he; exact ⟨h.at_, .inr (number_err he)⟩
    · rename_i n a hn
      obtain ⟨h1, h2, h3, h4, h5, h6⟩ := number_in hn h.at_
      split
      · exact ⟨h.at_, .inr (.inr rfl)⟩
      · split
        · exact ⟨h.at_, .inr (.inl rfl)⟩
        · exact ⟨by simp only; omega, .inl rfl⟩
  · exact h
end Go.Wr
