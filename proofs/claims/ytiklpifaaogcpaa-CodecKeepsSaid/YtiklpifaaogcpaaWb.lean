/- Texts laid together: Wr Wb Wa We. -/
import Derived.Test.YtiklpifaaogcpaaProg
import Derived.Test.YtiklpifaaogcpaaCol
import Derived.Test.YtiklpifaaogcpaaPh
import Derived.Laws.Bits64
import Derived.Laws.Bits64b
import Derived.WalkKit
import Derived.WalkLawsBesides
import Derived.WalkSpells
import Derived.Below
import Derived.Deep.RegionHeld3
import Derived.Deep.QuietTactic
import Derived.BigQuiet
import Derived.Deep.DeepCutAuto
import Derived.Deep.DeepMust
import Derived.KernelRfl
import Derived.Lib.Hide
import Derived.Outline
import Derived.RegionTactic
import Derived.StillTailTactics
import Derived.Laws.IdiomStrings
namespace Go.Wr
/-- A number's form: a count. -/
def zz (n : Int) : Nat := if 0 ≤ n then (2 * n).toNat else (-2 * n - 1).toNat
def uz (u : Nat) : Int := if u % 2 = 0 then ((u / 2 : Nat) : Int) else -((u / 2 : Nat) : Int) - 1
theorem uz_zz (n : Int) : uz (zz n) = n := by
  unfold uz zz; split <;> split <;> omega
theorem zz_uz (u : Nat) : zz (uz u) = u := by
  unfold uz zz; split <;> split <;> omega
theorem zz_lt {n : Int} (h1 : -9223372036854775808 ≤ n) (h2 : n ≤ 9223372036854775807) : zz n < 18446744073709551616 := by
  unfold zz; split <;> omega
theorem uz_in {u : Nat} (h : u < 18446744073709551616) : -9223372036854775808 ≤ uz u ∧ uz u ≤ 9223372036854775807 := by
  unfold uz; split <;> omega
def byt (n : Nat) : UInt8 := UInt8.ofNat n
theorem byt_nat {n : Nat} (h : n < 256) : (byt n).toNat = n := by unfold byt; simp; omega
theorem byt_of (b : UInt8) : byt b.toNat = b := by unfold byt; simp
theorem byt_eq {n : Nat} {b : UInt8} (h : b.toNat = n) : byt n = b := by subst h; exact byt_of b
def num (u : Nat) : List UInt8 := if u < 128 then [byt u] else byt (128 + u % 128) :: num (u / 128)
decreasing_by omega
theorem num_lo {u : Nat} (h : u < 128) : num u = [byt u] := by unfold num; rw [if_pos h]
theorem num_hi {u : Nat} (h : 128 ≤ u) : num u = byt (128 + u % 128) :: num (u / 128) := by rw [num, if_neg (by omega)]
/-- What is read from round i on, u laid together so far: an error, or the whole and the rounds. -/
def lk (i u : Nat) : List UInt8 → Nat ⊕ (Nat × Nat)
  | [] => if i = 10 then .inl 11 else .inl 10
  | b :: r => if i = 10 then .inl 11 else if (0 < i ∧ b.toNat = 0) ∨ (i = 9 ∧ b.toNat ≠ 1) then .inl 11
    else if b.toNat < 128 then .inr (u + 128 ^ i * (b.toNat % 128), i + 1) else lk (i + 1) (u + 128 ^ i * (b.toNat % 128)) r
theorem lk_num : ∀ (v i u : Nat) (t : List UInt8), i < 10 → (0 < i → 0 < v) → 128 ^ i * v < 18446744073709551616 →
    lk i u (num v ++ t) = .inr (u + 128 ^ i * v, i + (num v).length) := by
  intro v
  induction v using Nat.strongRecOn with
  | ind v ih =>
    intro i u t hi hv hb
    by_cases h : v < 128
    · rw [num_lo h]
      have hn : (byt v).toNat = v := byt_nat (by omega)
      have h9 : i = 9 → v ≤ 1 := by rintro rfl; omega
      simp only [List.cons_append, List.nil_append, lk, hn]
      rw [if_neg (by omega), if_neg (by intro hh; rcases hh with ⟨h1, h2⟩ | ⟨h1, h2⟩; exact absurd (hv h1) (by omega); have := h9 h1; have := hv (by omega); omega), if_pos h]
      rw [Nat.mod_eq_of_lt h]; rfl
    · rw [num_hi (by omega)]
      have hn : (byt (128 + v % 128)).toNat = 128 + v % 128 := byt_nat (by omega)
      have h9 : i ≠ 9 := by rintro rfl; omega
      simp only [List.cons_append, lk, hn]
      rw [if_neg (by omega), if_neg (by omega), if_neg (by omega)]
      have hm : (128 + v % 128) % 128 = v % 128 := by omega
      rw [hm]
      have hp : 128 ^ (i + 1) * (v / 128) + 128 ^ i * (v % 128) = 128 ^ i * v := by
        rw [Nat.pow_succ, Nat.mul_assoc, ← Nat.mul_add, Nat.div_add_mod]
      rw [ih (v / 128) (by omega) (i + 1) _ t (by omega) (by omega) (by omega)]
      rw [List.length_cons]
      congr 2 <;> omega
theorem lk_short : ∀ (v i u k : Nat), i < 10 → (0 < i → 0 < v) → 128 ^ i * v < 18446744073709551616 → k < (num v).length →
    lk i u ((num v).take k) = .inl 10 := by
  intro v
  induction v using Nat.strongRecOn with
  | ind v ih =>
    intro i u k hi hv hb hk
    cases k with
    | zero => simp [lk]; omega
    | succ k =>
      by_cases h : v < 128
      · rw [num_lo h] at hk; simp at hk
      · rw [num_hi (by omega)] at hk ⊢
        have hn : (byt (128 + v % 128)).toNat = 128 + v % 128 := byt_nat (by omega)
        have h9 : i ≠ 9 := by rintro rfl; omega
        simp only [List.take_succ_cons, lk, hn]
        rw [if_neg (by omega), if_neg (by omega), if_neg (by omega)]
        have hm : (128 + v % 128) % 128 = v % 128 := by omega
        rw [hm]
        have hp : 128 ^ (i + 1) * (v / 128) + 128 ^ i * (v % 128) = 128 ^ i * v := by
          rw [Nat.pow_succ, Nat.mul_assoc, ← Nat.mul_add, Nat.div_add_mod]
        exact ih (v / 128) (by omega) (i + 1) _ k (by omega) (by omega) (by omega) (by simpa using hk)
theorem lk_back : ∀ (r : List UInt8) (i u u' n : Nat), i ≤ 10 → lk i u r = .inr (u', n) → ∃ v, u' = u + 128 ^ i * v ∧ i < n ∧ n ≤ 10 ∧ n - i ≤ r.length ∧ r.take (n - i) = num v ∧ (0 < i → 0 < v) ∧ 128 ^ i * v < 18446744073709551616 := by
  intro r
  induction r with
  | nil => intro i u u' n _ h; simp only [lk] at h; split at h <;> simp at h
  | cons b r ih =>
    intro i u u' n hi h
    simp only [lk] at h
    split at h
    · simp at h
    · split at h
      · simp at h
      · rename_i h10 hbad
        have hb := b.toNat_lt
        have hlt : i ≤ 9 := by omega
        split at h
        · rename_i hlo
          simp only [Sum.inr.injEq, Prod.mk.injEq] at h
          obtain ⟨rfl, rfl⟩ := h
          refine ⟨b.toNat, by rw [Nat.mod_eq_of_lt hlo], by omega, by omega, by simp, ?_, by omega, ?_⟩
          · rw [num_lo hlo, byt_of, Nat.add_sub_cancel_left]; simp
          · by_cases h9 : i = 9
            · subst h9; have : b.toNat = 1 := by omega
              rw [this]; decide
            · have : 128 ^ i ≤ 128 ^ 8 := Nat.pow_le_pow_right (by decide) (by omega)
              have h2 : 128 ^ i * b.toNat ≤ 128 ^ 8 * b.toNat := Nat.mul_le_mul_right _ this
              have h3 : (128 : Nat) ^ 8 = 72057594037927936 := by decide
              omega
        · rename_i hhi
          obtain ⟨v, h1, h2, h2', h3, h4, h5, h6⟩ := ih (i + 1) _ u' n (by omega) h
          have hv := h5 (by omega)
          have hp : 128 ^ (i + 1) * v + 128 ^ i * (b.toNat % 128) = 128 ^ i * (128 * v + b.toNat % 128) := by
            rw [Nat.pow_succ, Nat.mul_assoc, ← Nat.mul_add]
          refine ⟨128 * v + b.toNat % 128, by omega, by omega, h2', by simp; omega, ?_, by omega, ?_⟩
          · have e : n - i = (n - (i + 1)) + 1 := by omega
            rw [e, List.take_succ_cons, h4, num_hi (u := 128 * v + b.toNat % 128) (by omega)]
            rw [show (128 * v + b.toNat % 128) % 128 = b.toNat % 128 by omega, show (128 * v + b.toNat % 128) / 128 = v by omega]
            rw [byt_eq (b := b) (by omega)]
          · rw [← hp]
            have : 128 ^ i * (b.toNat % 128) < 128 ^ (i + 1) := by
              rw [Nat.pow_succ]; exact Nat.mul_lt_mul_of_pos_left (by omega) (Nat.pow_pos (by decide))
            have hi8 : i ≤ 8 := by omega
            rw [show 128 ^ (i + 1) * v = 128 ^ (i + 1) * (v - 1) + 128 ^ (i + 1) from by rw [← Nat.mul_succ]; congr 1; omega]
            by_cases he : i = 8
            · subst he
              have e9 : (128 : Nat) ^ (8 + 1) = 9223372036854775808 := by decide
              rw [e9] at h6 this ⊢
              have : v = 1 := by omega
              subst this; omega
            · rw [show 128 ^ (i + 1) * v = 128 ^ (i + 1) * (v - 1) + 128 ^ (i + 1) from by rw [← Nat.mul_succ]; congr 1; omega] at h6
              have hd : 128 ^ (i + 1) * (v - 1) + 128 ^ (i + 1) < 18446744073709551616 := h6
              -- a multiple of 128^(i+1) below 2^64 = 128^(i+1) * 2^(64-7(i+1))
              have hw : (18446744073709551616 : Nat) = 128 ^ (i + 1) * 2 ^ (64 - 7 * (i + 1)) := by
                rw [show (128 : Nat) = 2 ^ 7 by decide, ← Nat.pow_mul, ← Nat.pow_add]
                rw [show 7 * (i + 1) + (64 - 7 * (i + 1)) = 64 by omega]
              rw [hw] at hd ⊢
              have hq : 128 ^ (i + 1) * (v - 1) + 128 ^ (i + 1) = 128 ^ (i + 1) * v := by rw [← Nat.mul_succ]; congr 1; omega
              rw [hq] at hd
              have hvlt : v < 2 ^ (64 - 7 * (i + 1)) := Nat.lt_of_mul_lt_mul_left hd
              have := Nat.mul_le_mul_left (128 ^ (i + 1)) (show v + 1 ≤ 2 ^ (64 - 7 * (i + 1)) by omega)
              rw [Nat.mul_succ] at this
              omega
theorem num_len_pos (u : Nat) : 0 < (num u).length := by
  unfold num; split <;> simp

/-- A reader: bytes, how many were taken off, the error. -/
structure St where
  at_ : Nat
  e : Nat
def number (s : List UInt8) (at_ : Nat) : Nat ⊕ (Int × Nat) :=
  match lk 0 0 (s.drop at_) with
  | .inl e => .inl e
  | .inr (u, n) => .inr (uz u, at_ + n)
def rNum (s : List UInt8) (t : St) : Int × St :=
  if t.e = 0 then match number s t.at_ with | .inl e => (0, ⟨t.at_, e⟩) | .inr (n, a) => (n, ⟨a, 0⟩) else (0, t)
def rBool (s : List UInt8) (t : St) : Bool × St :=
  if t.e = 0 then match s.drop t.at_ with
    | [] => (false, ⟨t.at_, 10⟩)
    | b :: _ => if 1 < b.toNat then (false, ⟨t.at_, 11⟩) else (b.toNat == 1, ⟨t.at_ + 1, 0⟩)
  else (false, t)
def rText (s : List UInt8) (most : Int) (t : St) : List UInt8 × St :=
  if t.e = 0 then match number s t.at_ with
    | .inl e => ([], ⟨t.at_, e⟩)
    | .inr (n, a) => if n < 0 ∨ max most 0 < n then ([], ⟨t.at_, 11⟩) else if (s.length : Int) - a < n then ([], ⟨t.at_, 10⟩) else ((s.drop a).take n.toNat, ⟨a + n.toNat, 0⟩)
  else ([], t)
def rEnd (s : List UInt8) (t : St) : Nat := if t.e = 0 then if t.at_ < s.length then 12 else 0 else t.e
theorem number_in {s : List UInt8} {a : Nat} {n : Int} {a' : Nat} (h : number s a = .inr (n, a')) (ha : a ≤ s.length) :
    a < a' ∧ a' ≤ s.length ∧ a' ≤ a + 10 ∧ -9223372036854775808 ≤ n ∧ n ≤ 9223372036854775807 ∧ (s.drop a).take (a' - a) = num (zz n) := by
  unfold number at h
  split at h
  · simp at h
  · rename_i u k hl
    simp only [Sum.inr.injEq, Prod.mk.injEq] at h
    obtain ⟨rfl, rfl⟩ := h
    obtain ⟨v, h1, h2, h3, h4, h5, h6, h7⟩ := lk_back _ _ _ _ _ (by omega) hl
    simp only [Nat.pow_zero, Nat.one_mul, Nat.zero_add] at h1 h7
    subst h1
    have := uz_in h7
    simp only [List.length_drop] at h4
    refine ⟨by omega, by omega, by omega, this.1, this.2, ?_⟩
    rw [zz_uz, Nat.add_sub_cancel_left]
    simpa using h5
theorem number_err {s : List UInt8} {a e : Nat} (h : number s a = .inl e) : e = 10 ∨ e = 11 := by
  have key : ∀ (r : List UInt8) (i u e : Nat), lk i u r = .inl e → e = 10 ∨ e = 11 := by
    intro r
    induction r with
    | nil => intro i u e h; simp only [lk] at h; split at h <;> simp at h <;> omega
    | cons b r ih =>
      intro i u e h
      simp only [lk] at h
      split at h
      · simp at h; omega
      · split at h
        · simp at h; omega
        · split at h
          · simp at h
          · exact ih _ _ _ h
  unfold number at h
  split at h
  · rename_i e' hl
    simp at h; subst h
    exact key _ _ _ _ hl
  · simp at h
/-- Bytes that are written, one after another, are read as they were written. -/
theorem drop_pre (pre t : List UInt8) : (pre ++ t).drop pre.length = t := by simp
theorem number_of {n : Int} (h1 : -9223372036854775808 ≤ n) (h2 : n ≤ 9223372036854775807) (pre t : List UInt8) :
    number (pre ++ (num (zz n) ++ t)) pre.length = .inr (n, pre.length + (num (zz n)).length) := by
  unfold number
  rw [drop_pre, lk_num _ _ _ _ (by decide) (by omega) (by have := zz_lt h1 h2; simpa using this)]
  simp only [Nat.pow_zero, Nat.one_mul, Nat.zero_add, uz_zz]
theorem number_cut {n : Int} (h1 : -9223372036854775808 ≤ n) (h2 : n ≤ 9223372036854775807) (pre : List UInt8) (k : Nat) (hk : k < (num (zz n)).length) :
    number (pre ++ (num (zz n)).take k) pre.length = .inl 10 := by
  unfold number
  rw [drop_pre, lk_short _ _ _ _ (by decide) (by omega) (by have := zz_lt h1 h2; simpa using this) hk]
/-- One thing that is written, or read. -/
structure Thing where
  k : Int
  n : Int
  s : List UInt8
  most : Int
def bit (n : Int) : Bool := decide (n % 2 = 1)
def bol (b : Bool) : List UInt8 := if b then [1] else [0]
def txt (s : List UInt8) : List UInt8 := num (zz s.length) ++ s
def enc (o : Thing) : List UInt8 := if o.k % 4 = 0 then num (zz o.n) else if o.k % 4 = 1 then bol (bit o.n) else if o.k % 4 = 2 then txt o.s else []
/-- The state behind one reading; the reading is right if it tells what was written. -/
def after (s : List UInt8) (o : Thing) (t : St) : St := if o.k % 4 = 0 then (rNum s t).2 else if o.k % 4 = 1 then (rBool s t).2 else if o.k % 4 = 2 then (rText s o.s.length t).2 else t
def right (s : List UInt8) (o : Thing) (t : St) : Prop := (o.k % 4 = 0 → (rNum s t).1 = o.n) ∧ (o.k % 4 = 1 → (rBool s t).1 = bit o.n) ∧ (o.k % 4 = 2 → (rText s o.s.length t).1 = o.s)
structure Ok (o : Thing) : Prop where
  k0 : 0 ≤ o.k
  n1 : -9223372036854775808 ≤ o.n
  n2 : o.n ≤ 9223372036854775807
  s : o.s.length ≤ 9223372036854775807
theorem bit_read (b : Bool) (pre t : List UInt8) : rBool (pre ++ (bol b ++ t)) ⟨pre.length, 0⟩ = (b, ⟨pre.length + (bol b).length, 0⟩) := by
  unfold rBool bol
  cases b <;> simp
theorem text_read (s : List UInt8) (hs : s.length ≤ 9223372036854775807) (pre t : List UInt8) (most : Int) (hm : (s.length : Int) ≤ most) :
    rText (pre ++ (txt s ++ t)) most ⟨pre.length, 0⟩ = (s, ⟨pre.length + (txt s).length, 0⟩) := by
  unfold rText txt
  have e : pre ++ (num (zz s.length) ++ s ++ t) = pre ++ (num (zz s.length) ++ (s ++ t)) := by simp
  rw [if_pos rfl, e, number_of (by omega) (by omega)]
  simp only
  rw [if_neg (by omega), if_neg (by simp only [List.length_append]; omega)]
  have e2 : pre ++ (num (zz s.length) ++ (s ++ t)) = (pre ++ num (zz s.length)) ++ (s ++ t) := by simp
  have e3 : pre.length + (num (zz s.length)).length = (pre ++ num (zz s.length)).length := by simp
  rw [e2, e3, drop_pre]
  simp only [Int.toNat_natCast, List.take_left, List.length_append]
  rw [show pre.length + ((num (zz s.length)).length + s.length) = pre.length + (num (zz s.length)).length + s.length by omega]
theorem num_read {n : Int} (h1 : -9223372036854775808 ≤ n) (h2 : n ≤ 9223372036854775807) (pre t : List UInt8) : rNum (pre ++ (num (zz n) ++ t)) ⟨pre.length, 0⟩ = (n, ⟨pre.length + (num (zz n)).length, 0⟩) := by
  unfold rNum
  rw [if_pos rfl, number_of h1 h2]
theorem enc_0 {o : Thing} (e : o.k % 4 = 0) : enc o = num (zz o.n) := if_pos e
theorem enc_1 {o : Thing} (e : o.k % 4 = 1) : enc o = bol (bit o.n) := by unfold enc; rw [if_neg (by omega), if_pos e]
theorem enc_2 {o : Thing} (e : o.k % 4 = 2) : enc o = txt o.s := by unfold enc; rw [if_neg (by omega), if_neg (by omega), if_pos e]
theorem enc_3 {o : Thing} (e : o.k % 4 = 3) : enc o = [] := by unfold enc; rw [if_neg (by omega), if_neg (by omega), if_neg (by omega)]
theorem after_0 {s : List UInt8} {o : Thing} {t : St} (e : o.k % 4 = 0) : after s o t = (rNum s t).2 := if_pos e
theorem after_1 {s : List UInt8} {o : Thing} {t : St} (e : o.k % 4 = 1) : after s o t = (rBool s t).2 := by unfold after; rw [if_neg (by omega), if_pos e]
theorem after_2 {s : List UInt8} {o : Thing} {t : St} (e : o.k % 4 = 2) : after s o t = (rText s o.s.length t).2 := by unfold after; rw [if_neg (by omega), if_neg (by omega), if_pos e]
theorem after_3 {s : List UInt8} {o : Thing} {t : St} (e : o.k % 4 = 3) : after s o t = t := by unfold after; rw [if_neg (by omega), if_neg (by omega), if_neg (by omega)]
theorem read_whole (o : Thing) (h : Ok o) (pre t : List UInt8) :
    right (pre ++ (enc o ++ t)) o ⟨pre.length, 0⟩ ∧ after (pre ++ (enc o ++ t)) o ⟨pre.length, 0⟩ = ⟨pre.length + (enc o).length, 0⟩ := by
  have hk := h.k0
  unfold right
  rcases (by omega : o.k % 4 = 0 ∨ o.k % 4 = 1 ∨ o.k % 4 = 2 ∨ o.k % 4 = 3) with e | e | e | e
  · rw [after_0 e, enc_0 e, num_read h.n1 h.n2]
    exact ⟨⟨fun _ => rfl, fun e' => by omega, fun e' => by omega⟩, rfl⟩
  · rw [after_1 e, enc_1 e, bit_read]
    exact ⟨⟨fun e' => by omega, fun _ => rfl, fun e' => by omega⟩, rfl⟩
  · rw [after_2 e, enc_2 e, text_read o.s h.s pre t o.s.length (by omega)]
    exact ⟨⟨fun e' => by omega, fun e' => by omega, fun _ => rfl⟩, rfl⟩
  · rw [after_3 e, enc_3 e]
    exact ⟨⟨fun e' => by omega, fun e' => by omega, fun e' => by omega⟩, rfl⟩
/-- Where the bytes end ahead of the thing's end: short. -/
theorem read_cut (o : Thing) (h : Ok o) (pre : List UInt8) (k : Nat) (hk : k < (enc o).length) :
    (after (pre ++ (enc o).take k) o ⟨pre.length, 0⟩).e = 10 := by
  have hk0 := h.k0
  have hs := h.s
  rcases (by omega : o.k % 4 = 0 ∨ o.k % 4 = 1 ∨ o.k % 4 = 2 ∨ o.k % 4 = 3) with e | e | e | e
  · rw [enc_0 e] at hk
    rw [after_0 e, enc_0 e]
    unfold rNum
    rw [if_pos rfl, number_cut h.n1 h.n2 _ _ hk]
  · rw [enc_1 e] at hk
    rw [after_1 e, enc_1 e]
    have : k = 0 := by unfold bol at hk; split at hk <;> simp at hk <;> omega
    subst this
    simp [rBool]
  · rw [enc_2 e] at hk
    rw [after_2 e, enc_2 e]
    unfold txt at hk ⊢
    rw [List.length_append] at hk
    unfold rText
    rw [if_pos rfl]
    by_cases hn : k < (num (zz o.s.length)).length
    · rw [List.take_append_of_le_length (by omega), number_cut (by omega) (by omega) _ _ hn]
    · have e1 : (num (zz o.s.length) ++ o.s).take k = num (zz o.s.length) ++ o.s.take (k - (num (zz o.s.length)).length) := by
        rw [List.take_append, List.take_of_length_le (by omega)]
      rw [e1, number_of (by omega) (by omega)]
      simp only
      rw [if_neg (by omega), if_pos (by simp only [List.length_append, List.length_take]; omega)]
  · rw [enc_3 e] at hk; simp at hk
theorem after_err (s : List UInt8) (o : Thing) (t : St) (h : t.e = 10) : (after s o t).e = 10 := by
  unfold after rNum rBool rText
  have : t.e ≠ 0 := by omega
  simp only [if_neg this]
  split <;> (try split) <;> (try split) <;> exact h

/-- What was taken off without an error, written anew, is what was taken off. -/
theorem form_num {s : List UInt8} {t : St} (hs : t.at_ ≤ s.length) (h0 : t.e = 0) (h : (rNum s t).2.e = 0) :
    s.take (rNum s t).2.at_ = s.take t.at_ ++ num (zz (rNum s t).1) ∧ (rNum s t).2.at_ ≤ s.length ∧ -9223372036854775808 ≤ (rNum s t).1 ∧ (rNum s t).1 ≤ 9223372036854775807 := by
  unfold rNum at h ⊢
  rw [if_pos h0] at h ⊢
  split at h
  · rename_i e he
    have := number_err he
    simp at h; omega
  · rename_i n a hn
    obtain ⟨h1, h2, h3, h4, h5, h6⟩ := number_in hn hs
    simp only
    refine ⟨?_, h2, h4, h5⟩
    rw [← h6, ← List.take_add]
    congr 1; omega
theorem form_bool {s : List UInt8} {t : St} (_hs : t.at_ ≤ s.length) (h0 : t.e = 0) (h : (rBool s t).2.e = 0) :
    s.take (rBool s t).2.at_ = s.take t.at_ ++ bol (rBool s t).1 ∧ (rBool s t).2.at_ ≤ s.length := by
  unfold rBool at h ⊢
  rw [if_pos h0] at h ⊢
  cases hd : s.drop t.at_ with
  | nil => rw [hd] at h; simp at h
  | cons b r =>
    rw [hd] at h
    have hl : t.at_ < s.length := by
      rcases Nat.lt_or_ge t.at_ s.length with h1 | h1
      · exact h1
      · rw [List.drop_of_length_le h1] at hd; simp at hd
    simp only at h ⊢
    split at h
    · simp at h
    · rename_i hb
      rw [if_neg hb]
      refine ⟨?_, hl⟩
      simp only
      rw [List.take_add, hd]
      congr 1
      unfold bol
      have hb2 := b.toNat_lt
      rcases (by omega : b.toNat = 0 ∨ b.toNat = 1) with e | e
      · have : b = 0 := by rw [← UInt8.toNat_inj]; exact e
        subst this; simp
      · have : b = 1 := by rw [← UInt8.toNat_inj]; exact e
        subst this; simp
theorem form_text {s : List UInt8} {most : Int} {t : St} (hs : t.at_ ≤ s.length) (h0 : t.e = 0) (h : (rText s most t).2.e = 0) :
    s.take (rText s most t).2.at_ = s.take t.at_ ++ txt (rText s most t).1 ∧ (rText s most t).2.at_ ≤ s.length := by
  unfold rText at h ⊢
  rw [if_pos h0] at h ⊢
  split at h
  · rename_i e he
    have := number_err he
    simp at h; omega
  · rename_i n a hn
    obtain ⟨h1, h2, h3, h4, h5, h6⟩ := number_in hn hs
    split at h
    · simp at h
    · split at h
      · simp at h
      · rename_i c1 c2
        rw [if_neg c1, if_neg c2]
        have hn0 : 0 ≤ n := by omega
        have hl : ((s.drop a).take n.toNat).length = n.toNat := by simp; omega
        refine ⟨?_, by simp only; omega⟩
        unfold txt
        simp only [hl]
        rw [show ((n.toNat : Nat) : Int) = n by omega, ← h6, ← List.append_assoc, ← List.take_add, show t.at_ + (a - t.at_) = a by omega, ← List.take_add]
/-- No step back, none beyond the end; an error, if any, is one of two. -/
structure St.Ok (s : List UInt8) (t : St) : Prop where
  at_ : t.at_ ≤ s.length
  e : t.e = 0 ∨ t.e = 10 ∨ t.e = 11
theorem ok_num {s : List UInt8} {t : St} (h : t.Ok s) : ((rNum s t).2).Ok s ∧ -9223372036854775808 ≤ (rNum s t).1 ∧ (rNum s t).1 ≤ 9223372036854775807 := by
  unfold rNum
  split
  · split
    · rename_i e he; exact ⟨⟨h.at_, .inr (number_err he)⟩, by simp, by simp⟩
    · rename_i n a hn
      obtain ⟨h1, h2, h3, h4, h5, h6⟩ := number_in hn h.at_
      exact ⟨⟨h2, .inl rfl⟩, h4, h5⟩
  · exact ⟨h, by simp, by simp⟩
theorem ok_bool {s : List UInt8} {t : St} (h : t.Ok s) : ((rBool s t).2).Ok s := by
  unfold rBool
  split
  · split
    · exact ⟨h.at_, .inr (.inl rfl)⟩
    · rename_i b r hd
      have hl : t.at_ < s.length := by
        rcases Nat.lt_or_ge t.at_ s.length with h1 | h1
        · exact h1
        · rw [List.drop_of_length_le h1] at hd; simp at hd
      split
      · exact ⟨h.at_, .inr (.inr rfl)⟩
      · exact ⟨hl, .inl rfl⟩
  · exact h
theorem ok_text {s : List UInt8} {most : Int} {t : St} (h : t.Ok s) : ((rText s most t).2).Ok s := by
  unfold rText
  split
  · split
    · rename_i e he; exact ⟨h.at_, .inr (number_err he)⟩
    · rename_i n a hn
      obtain ⟨h1, h2, h3, h4, h5, h6⟩ := number_in hn h.at_
      split
      · exact ⟨h.at_, .inr (.inr rfl)⟩
      · split
        · exact ⟨h.at_, .inr (.inl rfl)⟩
        · exact ⟨by simp only; omega, .inl rfl⟩
  · exact h
end Go.Wr

namespace Go.Wr
open Go
theorem w_u64 (n : Int) : IntKind.u64.wrap n = n % 18446744073709551616 := by simp [IntKind.wrap, IntKind.bits, IntKind.signed]
theorem w_u8 (n : Int) : IntKind.u8.wrap n = n % 256 := by simp [IntKind.wrap, IntKind.bits, IntKind.signed]
theorem w_i64 (n : Int) : IntKind.i64.wrap n = if n % 18446744073709551616 ≥ 9223372036854775808 then n % 18446744073709551616 - 18446744073709551616 else n % 18446744073709551616 := by
  simp [IntKind.wrap, IntKind.bits, IntKind.signed]
theorem u64_all (x : Nat) (h : x < 18446744073709551616) : bits .xor .u64 IntKind.u64.max (x : Int) = ((18446744073709551615 - x : Nat) : Int) := by
  have hm : BitVec.ofInt 64 IntKind.u64.max = BitVec.allOnes 64 := by decide
  have h1 : (BitVec.ofInt 64 (x : Int)).toNat = x := by
    rw [BitVec.ofInt_natCast, BitVec.toNat_ofNat]; exact Nat.mod_eq_of_lt (by omega)
  show IntKind.u64.wrap ((BitVec.ofInt 64 IntKind.u64.max ^^^ BitVec.ofInt 64 (x : Int)).toNat : Int) = _
  rw [hm, BitVec.allOnes_xor, BitVec.toNat_not, h1, w_u64]
  omega
theorem sh_pos {n : Int} (h0 : 0 ≤ n) (h : n ≤ 9223372036854775807) : IntKind.u64.wrap (IntKind.u64.wrap n * 2) = (zz n : Int) := by
  rw [w_u64, w_u64, zz, if_pos h0]
  omega
theorem sh_neg {n : Int} (h0 : n < 0) (h : -9223372036854775808 ≤ n) : bits .xor .u64 IntKind.u64.max (IntKind.u64.wrap (IntKind.u64.wrap n * 2)) = (zz n : Int) := by
  have e : IntKind.u64.wrap (IntKind.u64.wrap n * 2) = (((2 * n + 18446744073709551616).toNat : Nat) : Int) := by
    rw [w_u64, w_u64]
    omega
  rw [e, u64_all _ (by omega), zz, if_neg (by omega)]
  omega
theorem or8 : (List.range 256).all (fun x => bits .or .u8 (x : Int) 128 == ((128 + x % 128 : Nat) : Int)) = true := by decide +kernel
theorem or_128 (x : Nat) (h : x < 256) : bits .or .u8 (x : Int) 128 = ((128 + x % 128 : Nat) : Int) := by
  have := List.all_eq_true.1 or8 x (List.mem_range.2 h)
  simpa using this
theorem and8 : (List.range 256).all (fun x => bits .and .u8 (x : Int) 127 == ((x % 128 : Nat) : Int)) = true := by decide +kernel
theorem and_127 (x : Nat) (h : x < 256) : bits .and .u8 (x : Int) 127 = ((x % 128 : Nat) : Int) := by
  have := List.all_eq_true.1 and8 x (List.mem_range.2 h)
  simpa using this
theorem and_1 (u : Nat) (h : u < 18446744073709551616) : bits .and .u64 (u : Int) 1 = ((u % 2 : Nat) : Int) := by
  have := bits_and_u64_nat u 1 h (by decide)
  rw [Nat.and_one_is_mod] at this
  exact this
theorem and_i1 (n : Int) : bits .and .i64 n 1 = n % 2 := by
  show IntKind.i64.wrap ((BitVec.ofInt 64 n &&& BitVec.ofInt 64 1).toNat : Int) = _
  rw [BitVec.toNat_and]
  have e1 : (BitVec.ofInt 64 1).toNat = 1 := by decide
  rw [e1, Nat.and_one_is_mod, BitVec.toNat_ofInt, w_i64]
  omega
theorem or_sh (u x i : Nat) (hu : u < 128 ^ i) (hx : x < 128) (hi : i ≤ 9) (h9 : i = 9 → x ≤ 1) :
    bits .or .u64 (u : Int) (IntKind.u64.wrap ((x : Int) * 2 ^ (7 * i))) = ((u + 128 ^ i * x : Nat) : Int) ∧ u + 128 ^ i * x < 18446744073709551616 := by
  have hp : (128 : Nat) ^ i = 2 ^ (7 * i) := by rw [Nat.pow_mul]
  have hle : 128 ^ i * (x + 1) ≤ 18446744073709551616 := by
    by_cases h : i = 9
    · subst h
      exact Nat.le_trans (Nat.mul_le_mul_left _ (show x + 1 ≤ 2 by have := h9 rfl; omega)) (by decide)
    · exact Nat.le_trans (Nat.mul_le_mul (Nat.pow_le_pow_right (by decide) (show i ≤ 8 by omega)) (show x + 1 ≤ 128 by omega)) (by decide)
  rw [Nat.mul_succ] at hle
  have e : IntKind.u64.wrap ((x : Int) * 2 ^ (7 * i)) = ((128 ^ i * x : Nat) : Int) := by
    rw [w_u64, show (x : Int) * 2 ^ (7 * i) = ((128 ^ i * x : Nat) : Int) by rw [hp]; push_cast; rw [Int.mul_comm]]
    have hpos : 0 < 128 ^ i := Nat.pow_pos (by decide)
    omega
  have hpos : 0 < 128 ^ i := Nat.pow_pos (by decide)
  refine ⟨?_, by omega⟩
  rw [e, bits_or_u64_nat _ _ (by omega) (by omega)]
  congr 1
  rw [hp] at hu ⊢
  rw [Nat.mul_comm, ← Nat.shiftLeft_eq, Nat.or_comm, ← Nat.shiftLeft_add_eq_or_of_lt hu, Nat.add_comm]
theorem bits_xor_i64_0 (a : Nat) (h : a < 9223372036854775808) : bits .xor .i64 (a : Int) 0 = a := by
  show IntKind.i64.wrap ((BitVec.ofInt 64 (a : Int) ^^^ BitVec.ofInt 64 0).toNat : Int) = _
  have e0 : BitVec.ofInt 64 0 = 0#64 := by decide
  rw [e0, BitVec.xor_zero, BitVec.ofInt_natCast, BitVec.toNat_ofNat, w_i64]
  omega
theorem bits_xor_i64_1 (a : Nat) (h : a < 9223372036854775808) : bits .xor .i64 (a : Int) (-1) = -(a : Int) - 1 := by
  show IntKind.i64.wrap ((BitVec.ofInt 64 (a : Int) ^^^ BitVec.ofInt 64 (-1)).toNat : Int) = _
  have e0 : BitVec.ofInt 64 (-1) = BitVec.allOnes 64 := by decide
  rw [e0, BitVec.xor_allOnes, BitVec.toNat_not, BitVec.ofInt_natCast, BitVec.toNat_ofNat, w_i64]
  omega
theorem un_zz (u : Nat) (h : u < 18446744073709551616) : bits .xor .i64 ((u / 2 : Nat) : Int) (-((u % 2 : Nat) : Int)) = uz u := by
  unfold uz
  rcases (by omega : u % 2 = 0 ∨ u % 2 = 1) with e | e
  · rw [e, if_pos rfl]; exact bits_xor_i64_0 _ (by omega)
  · rw [e, if_neg (by decide)]; exact bits_xor_i64_1 _ (by omega)
end Go.Wr

namespace Go.Proofs.Ytiklpifaaogcpaa
open Go.RowKit Go.Cl
set_option maxRecDepth 100000
set_option linter.unusedVariables false
set_option linter.unusedSimpArgs false

open Go.Wr
def encB (x : UInt8) : List Value := [.int .u8 x.toNat]
theorem encB_ok : Enc UInt8 encB 1 := ⟨fun _ => rfl, fun _ u hu => by simp [encB] at hu; subst hu; rfl⟩
theorem Try.info5 : (Try.prog.info? 5).map (fun i => (i.zero, i.size, i.bytes)) = some (some (.int .u8 0), 1, 1) := by kernel_rfl
/-- A writer in memory: its bytes lie in a row of its own. -/
structure Wri (col : Nat → Nat) (i : Nat) (w : World) (b : Nat) (L : List UInt8) : Prop where
  ex : ∃ v, Blk col i w b #[v] 59 ∧ Row col i w 5 1 v L.length (L.flatMap encB)
theorem Wri.kept {col col' : Nat → Nat} {i : Nat} {w w' : World} {b : Nat} {L : List UInt8} (h : Wri col i w b L) {S : List Nat} (hm : Mv S col w col' w') (hi : i ∉ S) : Wri col' i w' b L := by
  obtain ⟨v, hb, hr⟩ := h
  exact ⟨v, hb.kept hm hi, hr.kept hm hi⟩
theorem Wri.below {col : Nat → Nat} {i : Nat} {w w' : World} {b : Nat} {L : List UInt8} (h : Wri col i w b L) (hb' : Below w.heap.size w w') : Wri col i w' b L := h.kept (Mv.of_below (S := []) (col := col) hb') (by simp)
theorem Wri.painted {col : Nat → Nat} {i : Nat} {w w' : World} {b : Nat} {L : List UInt8} (h : Wri col i w b L) (hb' : Below w.heap.size w w') : Wri (paint col w i) i w' b L := by
  obtain ⟨v, hb, hr⟩ := h
  exact ⟨v, hb.below hb', hr.below hb'⟩
theorem wr_put (col : Nat → Nat) (i : Nat) (w : World) (b : Nat) (L : List UInt8) (h : Wri col i w b L) (a : Addr) (M : List UInt8) (c : Nat) (hM : ∀ j u, (M.flatMap encB)[j]? = some u → w.cell? (a.add j) = some u) (hs : L.length + M.length ≤ 140737488355328) :
    Calls Try.prog 98 #[.pointer (some ⟨b, 0, none⟩), .slice (some a) M.length c] w fun e w' => e = .returned (.tuple #[]) ∧ Wri (paint col w i) i w' b (L ++ M) ∧ Ch col i w w' := by
  obtain ⟨i0, hi, hz0, hz1, hz2⟩ := info_parts Try.info5
  obtain ⟨v, hb, hr⟩ := h
  have hne := hr.ne hb.hp (by decide)
  have HS := Lib.hid hs; clear hs
  have HM := Lib.hid hM; clear hM
  obtain ⟨p, c0, rfl⟩ := hr.form
  have cb := hp_cell hb.hp
  have fb := hp_free hb.hp
  go_enter Try.func98, Try.ntmps98
  go_wp2_with (at_builtin; refine wpList_append_col rfl (.tmp 8) (.tmp 9) 53 rfl 5 i0 (.int .u8 0) 1 1 Try.underlying53 hi hz0 hz1 hz2 rfl (by decide) _ L.length (L.flatMap encB) rfl hr a M.length c (M.flatMap encB) rfl (encB_ok.length _) HM.out (encB_ok.ones _) ?c3 ?c4 ?k)
  case c3 => have := HS.out; unfold maxLen; omega
  case c4 => have := HS.out; omega
  case k =>
    intro p' c' w1 hr1 hC hg
    have hb1 := hp_grown hb.hp hg (fun e => hne e.symm)
    have cb1 := hp_cell hb1
    have fb1 := hp_free hb1
    clear cb fb
    go_wp2
    refine bodyPost_end (results_none rfl _ _ _) rfl ?_
    refine ⟨rfl, ⟨_, ⟨hp_set hb1 _, paint_of hb.col⟩, ?_⟩, hC.setCell (paint_of hb.col) _⟩
    rw [List.flatMap_append, List.length_append]
    exact hr1.set (hr1.ne hb1 (by decide)) _

/-- What is known behind some rounds. -/
def NumInv (col : Nat → Nat) (i : Nat) (w : World) (b : Nat) (L : List UInt8) (Z : Nat) (t : Value) (wr : World) : Prop :=
  ∃ (u : Nat) (M : List UInt8), t = .int .u64 u ∧ u ≤ Z ∧ M ++ num u = num Z ∧ Wri (paint col w i) i wr b (L ++ M) ∧ Ch col i w wr
theorem cell_one (w : World) (x : Nat) (y : UInt8) (h : y.toNat = x) : ∀ j u, ([y].flatMap encB)[j]? = some u → (w.alloc (.cells #[.int .u8 x] 5)).cell? ((⟨w.heap.size, 0, none⟩ : Addr).add j) = some u := by
  subst h
  intro j u hj
  match j, hj with
  | 0, hj => simp [encB] at hj; subst hj; simp [Addr.add]
set_option maxHeartbeats 800000 in
theorem wr_num (col : Nat → Nat) (i : Nat) (w : World) (b : Nat) (L : List UInt8) (HW : Wri col i w b L) (n : Int) (n1 : -9223372036854775808 ≤ n) (n2 : n ≤ 9223372036854775807) (hs : L.length + (num (zz n)).length ≤ 140737488355328) :
    Calls Try.prog 95 #[.pointer (some ⟨b, 0, none⟩), .int .i64 n] w fun e w' => e = .returned (.tuple #[]) ∧ Wri (paint col w i) i w' b (L ++ num (zz n)) ∧ Ch col i w w' := by
  have HS := Lib.hid hs; clear hs
  have HZ := Lib.hid (zz_lt n1 n2)
  have HP := Lib.hid (fun h0 : ¬ n < 0 => sh_pos (by omega) n2)
  have HN := Lib.hid (fun h0 : n < 0 => sh_neg h0 n1)
  have H0 : Wri (paint col w i) i w b (L ++ []) := by rw [List.append_nil]; exact HW.painted (Below.refl _ _)
  clear n1 n2 HW
  generalize zz n = Z at *
  by_cases hn : n < 0
  all_goals
    go_enter Try.func95, Try.ntmps95
    go_wp2
    first | rw [HN.out hn] | rw [HP.out hn]
    clear HN HP
    go_loopw [4] (NumInv col i w b L Z) (fun t _ => (intOf t).toNat)
    case atStart => exact ⟨Z, [], rfl, Nat.le_refl _, rfl, H0, Ch.refl⟩
    case round =>
      obtain ⟨u, M, rfl, hu, hM, hW, hC⟩ := hrel
      clear H0
      by_cases hlt : u < 128
      · have hu8 : IntKind.u8.wrap (u : Int) = u := by rw [w_u8]; omega
        have hY := byt_nat (n := u) (by omega)
        have hLe := HS.out
        rw [← hM, num_lo hlt, List.length_append] at hLe
        rw [num_lo hlt] at hM
        go_wp2_with fail
        refine (wr_put (paint col w i) i _ b (L ++ M) (hW.below (below_alloc (Below.refl _ _) _)) ⟨_, 0, none⟩ [byt u] 1 (cell_one wr u (byt u) hY) (by rw [List.length_append]; omega)).mono ?_; rintro e w1 ⟨rfl, hW1, hC1⟩
        go_wp2
        refine bodyPost_end (results_none rfl _ _ _) rfl ?_
        have hC2 := hC.alloc (.cells #[.int .u8 u] 5)
        rw [paint_paint hC2.size] at hW1
        rw [List.append_assoc, hM] at hW1
        exact ⟨rfl, hW1, hC2.trans hC1⟩
      · have ho8 := or_128 (u % 256) (by omega)
        rw [show u % 256 % 128 = u % 128 by omega, show ((u % 256 : Nat) : Int) = (u : Int) % 256 by omega] at ho8
        have hY := byt_nat (n := 128 + u % 128) (by omega)
        have hLe := HS.out
        have h7 : (u : Int).fdiv (2 ^ min (Int.toNat 7) IntKind.u64.bits) = ((u / 128 : Nat) : Int) := by
          show (u : Int).fdiv 128 = _
          rw [Int.fdiv_eq_ediv_of_nonneg _ (by decide)]; omega
        rw [← hM, num_hi (by omega), List.length_append, List.length_cons] at hLe
        rw [num_hi (by omega)] at hM
        have HM := Lib.hid hM; clear hM
        have HLe := Lib.hid hLe; clear hLe
        go_wp2_with fail
        refine (wr_put (paint col w i) i _ b (L ++ M) (hW.below (below_alloc (Below.refl _ _) _)) ⟨_, 0, none⟩ [byt (128 + u % 128)] 1 (cell_one wr (128 + u % 128) (byt (128 + u % 128)) hY) (by have hLe := HLe.out; rw [List.length_append]; simp only [List.length_cons, List.length_nil]; omega)).mono ?_; rintro e w1 ⟨rfl, hW1, hC1⟩
        have hC2 := hC.alloc (.cells #[.int .u8 ((128 + u % 128 : Nat) : Int)] 5)
        rw [paint_paint hC2.size, List.append_assoc] at hW1
        clear ho8 HLe hY
        go_wp2
        go_roundw
        case rel => exact ⟨u / 128, M ++ [byt (128 + u % 128)], by go_num, by omega, by rw [List.append_assoc]; exact HM.out, hW1, hC2.trans hC1⟩
        case measure => simp [intOf]; omega

theorem conv_bytes (W : World) (s : ByteArray) : ∃ (C : Array Value) (c : Nat) (fr : Nat × Nat), (∀ (j : Nat) (u : Value), (s.data.toList.flatMap encB)[j]? = some u → C[j]? = some u) ∧
    (convert 9 53 (.string s)).run Try.prog W = .ok (.slice (some ⟨W.heap.size, 0, none⟩) s.size c) (W.drew.alloc (.cells C 5 fr)) := by
  have hrun := run_bytes_of_string W 9 53 5 s Try.underlying9 Try.underlying53 Try.underlying5
  refine ⟨bytesRow s (grownCap W s.size 0 5), _, _, ?_, hrun⟩
  intro j u hj
  have e : s.data.toList.flatMap encB = s.data.toList.map (fun b => Value.int .u8 b.toNat) := by
    rw [List.flatMap_eq_foldl]
    generalize s.data.toList = l
    rw [← List.flatMap_eq_foldl]
    induction l with
    | nil => rfl
    | cons x l ih => rw [List.flatMap_cons, ih]; rfl
  rw [e] at hj
  unfold bytesRow
  rw [Array.getElem?_append_left (by have := (List.getElem?_eq_some_iff.1 hj).1; simpa using this)]
  rw [← hj]; simp
theorem conv_row {col : Nat → Nat} {i : Nat} {w : World} {v : Value} {L : List UInt8} (hr : Row col i w 5 1 v L.length (L.flatMap encB)) (W : World) (hb : Below w.heap.size w W) :
    (convert 53 9 v).run Try.prog W = .ok (.string ⟨L.toArray⟩) W := by
  rcases hr.own.2 with ⟨rfl, h0⟩ | ⟨g, cap, cur, rfl, _, hg, hnc, hcm, hcs, htk⟩
  · obtain rfl : L = [] := List.eq_nil_of_length_eq_zero h0
    rw [run_convert_bytes_string W 53 9 5 none 0 0 Try.underlying53 Try.underlying5 Try.underlying9]
    simp [Conv.bytesToString]
    rfl
  · refine run_convert_bytes_back W 53 9 5 ⟨g, 0, none⟩ cap L Try.underlying53 Try.underlying5 Try.underlying9 ?_
    intro j hj
    have h1 := hr.cell (g := g) rfl (j := j) (u := .int .u8 L[j].toNat) (by have := encB_ok.get L j 0 hj (by decide); simpa [encB] using this)
    rw [Addr.add_lit, Nat.zero_add]
    exact cell_below hb h1
theorem wr_data (col : Nat → Nat) (i : Nat) (w : World) (b : Nat) (L : List UInt8) (HW : Wri col i w b L) :
    Calls Try.prog 21 #[.pointer (some ⟨b, 0, none⟩)] w fun e w' => e = .returned (.string ⟨L.toArray⟩) ∧ w = w' := by
  obtain ⟨v, hb, hr⟩ := HW
  have hcv := conv_row hr w (Below.refl _ _)
  obtain ⟨p, c0, rfl⟩ := hr.form
  have cb := hp_cell hb.hp
  go_enter Try.func21, Try.ntmps21
  go_wp2
  go_ret
  exact ⟨rfl, rfl⟩
theorem wr_bool (col : Nat → Nat) (i : Nat) (w : World) (b : Nat) (L : List UInt8) (HW : Wri col i w b L) (x : Bool) (hs : L.length + 1 ≤ 140737488355328) :
    Calls Try.prog 97 #[.pointer (some ⟨b, 0, none⟩), .bool x] w fun e w' => e = .returned (.tuple #[]) ∧ Wri (paint col w i) i w' b (L ++ bol x) ∧ Ch col i w w' := by
  have HS := Lib.hid hs; clear hs
  cases x
  · go_enter Try.func97, Try.ntmps97
    go_wp2_with fail
    refine (wr_put (paint col w i) i _ b L (HW.painted (below_alloc (Below.refl _ _) _)) ⟨_, 0, none⟩ [0] 1 (cell_one w 0 0 rfl) HS.out).mono ?_
    rintro e w1 ⟨rfl, hW1, hC1⟩
    go_wp2
    refine bodyPost_end (results_none rfl _ _ _) rfl ?_
    have hC2 := (Ch.refl (col := col) (i := i) (w := w)).alloc (.cells #[.int .u8 ((0 : Nat) : Int)] 5)
    rw [paint_paint hC2.size] at hW1
    exact ⟨rfl, hW1, hC2.trans hC1⟩
  · go_enter Try.func97, Try.ntmps97
    go_wp2_with fail
    refine (wr_put (paint col w i) i _ b L (HW.painted (below_alloc (Below.refl _ _) _)) ⟨_, 0, none⟩ [1] 1 (cell_one w 1 1 rfl) HS.out).mono ?_
    rintro e w1 ⟨rfl, hW1, hC1⟩
    go_wp2
    refine bodyPost_end (results_none rfl _ _ _) rfl ?_
    have hC2 := (Ch.refl (col := col) (i := i) (w := w)).alloc (.cells #[.int .u8 ((1 : Nat) : Int)] 5)
    rw [paint_paint hC2.size] at hW1
    exact ⟨rfl, hW1, hC2.trans hC1⟩
theorem wr_text (col : Nat → Nat) (i : Nat) (w : World) (b : Nat) (L : List UInt8) (HW : Wri col i w b L) (s : ByteArray) (hs0 : s.size ≤ maxLen) (hs : L.length + (txt s.data.toList).length ≤ 140737488355328) :
    Calls Try.prog 96 #[.pointer (some ⟨b, 0, none⟩), .string s] w fun e w' => e = .returned (.tuple #[]) ∧ Wri (paint col w i) i w' b (L ++ txt s.data.toList) ∧ Ch col i w w' := by
  have hl : s.data.toList.length = s.size := by simp
  unfold txt at hs ⊢
  rw [hl] at hs ⊢
  rw [List.length_append, hl] at hs
  have HS := Lib.hid hs; clear hs
  have HL := Lib.hid hl; clear hl
  unfold maxLen at hs0
  have HS0 := Lib.hid hs0; clear hs0
  go_enter Try.func96, Try.ntmps96
  go_wp2_with fail
  refine (wr_num col i w b L HW s.size (by omega) (by have := HS0.out; omega) (by have := HS.out; omega)).mono ?_
  rintro e w1 ⟨rfl, hW1, hC1⟩
  obtain ⟨C, c, fr, hC, hcv⟩ := conv_bytes w1 s
  have HC := Lib.hid hC; clear hC
  go_wp2_with fail
  clear hcv
  have hle : (L ++ num (zz s.size)).length + s.data.toList.length ≤ 140737488355328 := by have := HS.out; rw [List.length_append, HL.out]; omega
  refine (wr_put (paint col w i) i _ b (L ++ num (zz s.size)) (hW1.below (below_drew (below_alloc (Below.refl _ _) _))) ⟨_, 0, none⟩ s.data.toList c ?cells hle).mono ?_
  case cells =>
    intro j u hj
    rw [Addr.add_lit, Nat.zero_add]
    exact (hp_cell (hp_alloc_new w1 (.cells C 5 fr)) j).trans (HC.out j u hj)
  rintro e w2 ⟨rfl, hW2, hC2⟩
  clear hle
  go_wp2
  refine bodyPost_end (results_none rfl _ _ _) rfl ?_
  have hC3 := (hC1.alloc (.cells C 5 fr)).drew
  rw [paint_paint hC3.size, List.append_assoc] at hW2
  exact ⟨rfl, hW2, hC3.trans hC2⟩
end Go.Proofs.Ytiklpifaaogcpaa

namespace Go.Proofs.Ytiklpifaaogcpaa
open Go.RowKit Go.Cl
set_option maxRecDepth 100000
set_option linter.unusedVariables false
set_option linter.unusedSimpArgs false

open Go.Wr
/-- A reader in memory. -/
structure Rds (T : Nat) (col : Nat → Nat) (i : Nat) (w : World) (b : Nat) (s : ByteArray) (t : St) : Prop where
  blk : Blk col i w b #[.string s, .int .i64 t.at_, .int .i64 t.e] T
  ok : t.Ok s.data.toList
  len : s.size ≤ maxLen
theorem Rds.kept {T : Nat} {col col' : Nat → Nat} {i : Nat} {w w' : World} {b : Nat} {s : ByteArray} {t : St} (h : Rds T col i w b s t) {S : List Nat} (hm : Mv S col w col' w') (hi : i ∉ S) : Rds T col' i w' b s t := ⟨h.blk.kept hm hi, h.ok, h.len⟩
theorem Rds.below {T : Nat} {col : Nat → Nat} {i : Nat} {w w' : World} {b : Nat} {s : ByteArray} {t : St} (h : Rds T col i w b s t) (hb' : Below w.heap.size w w') : Rds T col i w' b s t := h.kept (Mv.of_below (S := []) (col := col) hb') (by simp)
theorem Rds.painted {T : Nat} {col : Nat → Nat} {i : Nat} {w w' : World} {b : Nat} {s : ByteArray} {t : St} (h : Rds T col i w b s t) (hb' : Below w.heap.size w w') : Rds T (paint col w i) i w' b s t := ⟨h.blk.below hb', h.ok, h.len⟩
theorem Rds.at_lt {T : Nat} {col : Nat → Nat} {i : Nat} {w : World} {b : Nat} {s : ByteArray} {t : St} (h : Rds T col i w b s t) : t.at_ ≤ s.size := by have := h.ok.at_; simpa using this
theorem rd_new (col : Nat → Nat) (i : Nat) (w : World) (s : ByteArray) (hs : s.size ≤ maxLen) :
    Calls Try.prog 40 #[.string s] w fun e w' => ∃ b, e = .returned (.pointer (some ⟨b, 0, none⟩)) ∧ Rds 126 (paint col w i) i w' b s ⟨0, 0⟩ ∧ Ch col i w w' := by
  go_enter Try.func40, Try.ntmps40
  go_wp2
  go_ret
  exact ⟨w.heap.size, rfl, ⟨⟨hp_alloc_new w _, paint_new (Nat.le_refl _)⟩, ⟨Nat.zero_le _, .inl rfl⟩, hs⟩, Ch.refl.alloc _⟩
theorem rd_err (col : Nat → Nat) (i : Nat) (w : World) (b : Nat) (s : ByteArray) (t : St) (h : Rds 126 col i w b s t) :
    Calls Try.prog 68 #[.pointer (some ⟨b, 0, none⟩)] w fun e w' => e = .returned (.int .i64 t.e) ∧ w = w' := by
  have cb := hp_cell h.blk.hp
  go_enter Try.func68, Try.ntmps68
  go_wp2
  go_ret
  exact ⟨rfl, rfl⟩
theorem rd_end (col : Nat → Nat) (i : Nat) (w : World) (b : Nat) (s : ByteArray) (t : St) (h : Rds 126 col i w b s t) :
    Calls Try.prog 41 #[.pointer (some ⟨b, 0, none⟩)] w fun e w' => e = .returned (.int .i64 (rEnd s.data.toList t)) ∧ ∃ n, w' = w.drewN n := by
  have hE := rd_err col i w b s t h
  have cb := hp_cell h.blk.hp
  have hl : s.data.toList.length = s.size := by simp
  obtain ⟨a, e⟩ := t
  unfold rEnd
  rw [hl]
  simp only at *
  clear hl
  by_cases h0 : e = 0
  · subst h0
    by_cases h1 : a < s.size
    · rw [if_pos rfl, if_pos h1]
      go_enter Try.func41, Try.ntmps41
      go_wp2_with (go_at_call 68; refine hE.mono ?_; rintro e w' ⟨rfl, rfl⟩)
      go_quiet (fail)
      go_wp2
      go_ret
      exact ⟨rfl, _, rfl⟩
    · rw [if_pos rfl, if_neg h1]
      have h1' : s.size ≤ a := by omega
      go_enter Try.func41, Try.ntmps41
      go_wp2_with (go_at_call 68; refine hE.mono ?_; rintro e w' ⟨rfl, rfl⟩)
      go_quiet (fail)
      go_wp2
      go_ret
      exact ⟨rfl, _, rfl⟩
  · rw [if_neg h0]
    have h0' : ¬ (e : Int) = 0 := by omega
    go_enter Try.func41, Try.ntmps41
    go_wp2_with (go_at_call 68; refine hE.mono ?_; rintro e w' ⟨rfl, rfl⟩)
    go_ret
    exact ⟨rfl, 0, rfl⟩
theorem rd_byte (col : Nat → Nat) (i : Nat) (w : World) (b : Nat) (s : ByteArray) (t : St) (h : Rds 126 col i w b s t) (A : Int) (a : Nat) (hA : A = a) (ha : a < s.size) :
    Calls Try.prog 109 #[.pointer (some ⟨b, 0, none⟩), .int .i64 A] w fun e w' => e = .returned (.tuple #[.int .u8 s[a].toNat, .bool true]) ∧ w' = w := by
  subst hA
  have cb := hp_cell h.blk.hp
  go_enter Try.func109, Try.ntmps109
  go_wp2
  go_ret2
  exact ⟨rfl, rfl⟩
theorem rd_byte_no (col : Nat → Nat) (i : Nat) (w : World) (b : Nat) (s : ByteArray) (t : St) (h : Rds 126 col i w b s t) (A : Int) (a : Nat) (hA : A = a) (ha : s.size ≤ a) :
    Calls Try.prog 109 #[.pointer (some ⟨b, 0, none⟩), .int .i64 A] w fun e w' => e = .returned (.tuple #[.int .u8 0, .bool false]) ∧ w' = w := by
  subst hA
  have cb := hp_cell h.blk.hp
  go_enter Try.func109, Try.ntmps109
  go_wp2
  go_ret2
  exact ⟨rfl, rfl⟩
theorem rd_fail (col : Nat → Nat) (i : Nat) (w : World) (b : Nat) (s : ByteArray) (t : St) (h : Rds 126 col i w b s t) (e : Nat) (he : e = 10 ∨ e = 11) (E : Int) (hE : E = e) :
    Calls Try.prog 108 #[.pointer (some ⟨b, 0, none⟩), .int .i64 E] w fun e' w' => e' = .returned (.tuple #[]) ∧ Rds 126 (paint col w i) i w' b s ⟨t.at_, e⟩ ∧ Ch col i w w' := by
  subst hE
  have cb := hp_cell h.blk.hp
  have fb := hp_free h.blk.hp
  go_enter Try.func108, Try.ntmps108
  go_wp2
  refine bodyPost_end (results_none rfl _ _ _) rfl ?_
  exact ⟨rfl, ⟨⟨hp_set h.blk.hp _, paint_of h.blk.col⟩, ⟨h.ok.at_, .inr he⟩, h.len⟩, Ch.refl.setCell (paint_of h.blk.col) _⟩
end Go.Proofs.Ytiklpifaaogcpaa
