/- A message as bytes: plain law. -/
import Derived.Test.YtiklpifaaogcpaaKs
import Derived.Test.YtiklpifaaogcpaaKm
import Derived.WalkKit
import Derived.WalkLawsBesides
import Derived.WalkSpells
import Derived.Below
import Derived.Deep.RegionHeld3
import Derived.Deep.QuietTactic
import Derived.BigQuiet
import Derived.Deep.DeepCutAuto
import Derived.Deep.DeepMust
import Derived.KernelRfl
import Derived.Lib.Hide
import Derived.Outline
import Derived.RegionTactic
import Derived.StillTailTactics
import Derived.Laws.IdiomStrings
import Derived.Handy
namespace Go.Proofs.Ytiklpifaaogcpaa
open Go.RowKit Go.Cl Go.Wr Go.Kc
set_option maxRecDepth 100000
set_option linter.unusedVariables false
set_option linter.unusedSimpArgs false


def encV (h : Bool) (d : ByteArray) : List UInt8 := bol h ++ (if h then txt d.data.toList else [])
def encP (lo hi : Int) : List UInt8 := num (zz lo) ++ num (zz hi)
def encE (x : Wt) : List UInt8 := txt x.k.data.toList ++ encV x.h x.d
def encN (n : Int) : List UInt8 := num (zz n)
def encT' (b : ByteArray) : List UInt8 := txt b.data.toList
/-- A message's bytes behind its kind. -/
def encF (m : Mg) : List UInt8 :=
  if m.kind = 1 then encN m.ses ++ encN m.seq ++ encN m.W.length ++ m.W.flatMap encE
  else if m.kind = 2 then encN m.ses ++ encN m.seq ++ encN m.err ++ encN m.n
  else if m.kind = 3 then encN m.node ++ encN m.tx ++ encN m.seq ++ encT' m.key ++ encP m.lo m.hi
  else if m.kind = 4 then encN m.tx ++ encN m.seq ++ bol m.hit ++ (if m.hit then encV m.has m.data ++ encP m.lo m.hi else [])
  else if m.kind = 5 then encN m.tx ++ encN m.seq ++ encT' m.key ++ encP m.lo m.hi
  else if m.kind = 6 then encN m.tx ++ encN m.seq ++ encN m.err ++ (if m.err = 0 then encV m.has m.data ++ encP m.lo m.hi else [])
  else if m.kind = 7 then encN m.node ++ encT' m.key ++ encV m.has m.data ++ encP m.lo m.hi ++ encN m.n
  else if m.kind = 8 then encN m.node ++ encN m.n ++ encN m.K.length ++ m.K.flatMap encT'
  else if m.kind = 9 then encN m.node ++ encN m.n
  else if m.kind = 10 then encN m.node ++ encN m.inc
  else encN m.node ++ encN m.inc ++ encN m.n
def encM (m : Mg) : List UInt8 := encN m.kind ++ encF m
theorem out_value (h : Bool) (d : ByteArray) (L : List UInt8) : valueT outO h d L = (.ok (h, d), L ++ encV h d) := by
  cases h
  · show (Except.ok (false, d), L ++ bol false) = _
    simp [encV]
  · show (Except.ok (true, d), L ++ bol true ++ txt d.data.toList) = _
    simp [encV]
theorem out_pin (lo hi : Int) (L : List UInt8) : pinT outO lo hi L = (.ok (lo, hi), L ++ encP lo hi) := by
  show (Except.ok (lo, hi), L ++ num (zz lo) ++ num (zz hi)) = _
  simp [encP]
theorem out_elem (x : Wt) (L : List UInt8) : elemT outO x L = (.ok x, L ++ encE x) := by
  unfold elemT
  rw [bind_ok (a := x.k) rfl, bind_ok (a := (x.h, x.d)) (by rw [out_value]), out_value]
  show (Except.ok x, L ++ txt x.k.data.toList ++ encV x.h x.d) = _
  simp [encE]
theorem out_map {α : Type} {one : α → M (List UInt8) α} {e : α → List UInt8} (h : ∀ x L, one x L = (.ok x, L ++ e x)) : ∀ (l : List α) (L : List UInt8), mapT one l L = (.ok l, L ++ l.flatMap e)
  | [], L => by show (Except.ok [], L) = _; simp
  | x :: l, L => by
    unfold mapT
    rw [bind_ok (a := x) (by rw [h]), h, bind_ok (a := l) (by rw [out_map h l]), out_map h l]
    show (Except.ok (x :: l), L ++ e x ++ l.flatMap e) = _
    simp
theorem out_list {α : Type} {one : α → M (List UInt8) α} {e : α → List UInt8} (h : ∀ x L, one x L = (.ok x, L ++ e x)) (z : α) (l : List α) (h1 : 1 ≤ l.length) (h8 : l.length ≤ 8) (L : List UInt8) : listT outO one z l L = (.ok l, L ++ encN l.length ++ l.flatMap e) := by
  unfold listT
  rw [bind_ok (a := (l.length : Int)) rfl, if_neg (by omega), if_neg (by omega), out_map h]
  rfl
theorem out_asked (m : Mg) (L : List UInt8) : askedT outO m L = (.ok m, L ++ (encN m.tx ++ encN m.seq)) := by
  show (Except.ok m, L ++ num (zz m.tx) ++ num (zz m.seq)) = _
  simp [encN]
/-- What the writing lane does: nothing to the message, and these bytes. -/
theorem out_fields (m : Mg) (L : List UInt8) (hW : m.kind = 1 → 1 ≤ m.W.length ∧ m.W.length ≤ 8) (hK : m.kind = 8 → 1 ≤ m.K.length ∧ m.K.length ≤ 8) (h1 : 1 ≤ m.kind) (h11 : m.kind ≤ 11) : fieldsT outO m L = (.ok m, L ++ encF m) := by
  rcases (by omega : m.kind = 1 ∨ m.kind = 2 ∨ m.kind = 3 ∨ m.kind = 4 ∨ m.kind = 5 ∨ m.kind = 6 ∨ m.kind = 7 ∨ m.kind = 8 ∨ m.kind = 9 ∨ m.kind = 10 ∨ m.kind = 11) with h | h | h | h | h | h | h | h | h | h | h
  · rw [fields_1 _ _ h, bind_ok (a := m.ses) rfl, bind_ok (a := m.seq) rfl, bind_ok (a := m.W) (by rw [out_list out_elem _ _ (hW h).1 (hW h).2]), out_list out_elem _ _ (hW h).1 (hW h).2]
    show (Except.ok m, L ++ num (zz m.ses) ++ num (zz m.seq) ++ encN m.W.length ++ m.W.flatMap encE) = _
    simp [encF, h, encN]
  · rw [fields_2 _ _ h]
    show (Except.ok m, L ++ num (zz m.ses) ++ num (zz m.seq) ++ num (zz m.err) ++ num (zz m.n)) = _
    simp [encF, h, encN]
  · rw [fields_3 _ _ h, bind_ok (a := m.node) rfl, bind_ok (a := m) (by rw [out_asked]), out_asked, bind_ok (a := m.key) rfl, bind_ok (a := (m.lo, m.hi)) (by rw [out_pin]), out_pin]
    show (Except.ok m, L ++ num (zz m.node) ++ (encN m.tx ++ encN m.seq) ++ txt m.key.data.toList ++ encP m.lo m.hi) = _
    simp [encF, h, encN, encT']
  · rw [fields_4 _ _ h, bind_ok (a := m) (by rw [out_asked]), out_asked, bind_ok (a := m.hit) rfl]
    cases hh : m.hit
    · rw [if_neg (by decide)]
      have e : ({ m with hit := false } : Mg) = m := by rw [← hh]
      show (Except.ok ({ m with hit := false } : Mg), L ++ (encN m.tx ++ encN m.seq) ++ bol false) = _
      rw [e]
      simp [encF, h, hh]
    · rw [if_pos rfl, bind_ok (a := (m.has, m.data)) (by rw [out_value]), out_value, bind_ok (a := (m.lo, m.hi)) (by rw [out_pin]), out_pin]
      have e : ({ m with hit := true } : Mg) = m := by rw [← hh]
      show (Except.ok ({ m with hit := true } : Mg), L ++ (encN m.tx ++ encN m.seq) ++ bol true ++ encV m.has m.data ++ encP m.lo m.hi) = _
      rw [e]
      simp [encF, h, hh]
  · rw [fields_5 _ _ h, bind_ok (a := m) (by rw [out_asked]), out_asked, bind_ok (a := m.key) rfl, bind_ok (a := (m.lo, m.hi)) (by rw [out_pin]), out_pin]
    show (Except.ok m, L ++ (encN m.tx ++ encN m.seq) ++ txt m.key.data.toList ++ encP m.lo m.hi) = _
    simp [encF, h, encT']
  · rw [fields_6 _ _ h, bind_ok (a := m) (by rw [out_asked]), out_asked, bind_ok (a := m.err) rfl]
    by_cases hh : m.err = 0
    · rw [if_pos hh, bind_ok (a := (m.has, m.data)) (by rw [out_value]), out_value, bind_ok (a := (m.lo, m.hi)) (by rw [out_pin]), out_pin]
      show (Except.ok m, L ++ (encN m.tx ++ encN m.seq) ++ num (zz m.err) ++ encV m.has m.data ++ encP m.lo m.hi) = _
      simp [encF, h, hh, encN]
    · rw [if_neg hh]
      show (Except.ok m, L ++ (encN m.tx ++ encN m.seq) ++ num (zz m.err)) = _
      simp [encF, h, hh, encN]
  all_goals rw [fields_0 _ _ (by omega) (by omega) (by omega) (by omega) (by omega) (by omega)]
  · rw [told_7 _ _ h, bind_ok (a := m.node) rfl, bind_ok (a := m.key) rfl, bind_ok (a := (m.has, m.data)) (by rw [out_value]), out_value, bind_ok (a := (m.lo, m.hi)) (by rw [out_pin]), out_pin]
    show (Except.ok m, L ++ num (zz m.node) ++ txt m.key.data.toList ++ encV m.has m.data ++ encP m.lo m.hi ++ num (zz m.n)) = _
    simp [encF, h, encN, encT']
  · rw [told_8 _ _ h, bind_ok (a := m.node) rfl, bind_ok (a := m.n) rfl, bind_ok (a := m.K) (by rw [out_list (one := keyT outO) (e := encT') (fun x L => rfl) _ _ (hK h).1 (hK h).2]), out_list (one := keyT outO) (e := encT') (fun x L => rfl) _ _ (hK h).1 (hK h).2]
    show (Except.ok m, L ++ num (zz m.node) ++ num (zz m.n) ++ encN m.K.length ++ m.K.flatMap encT') = _
    simp [encF, h, encN]
  · rw [told_9 _ _ h]
    show (Except.ok m, L ++ num (zz m.node) ++ num (zz m.n)) = _
    simp [encF, h, encN]
  · rw [told_10 _ _ h]
    show (Except.ok m, L ++ num (zz m.node) ++ num (zz m.inc)) = _
    simp [encF, h, encN]
  · rw [told_11 _ _ h]
    show (Except.ok m, L ++ num (zz m.node) ++ num (zz m.inc) ++ num (zz m.n)) = _
    simp [encF, h, encN]

theorem encN_le {n : Int} (h : I64 n) : (encN n).length ≤ 10 := num_len_10 (zz_lt h.1 h.2)
theorem txt_le (b : ByteArray) (n : Nat) (h : b.size ≤ n) (hn : n ≤ 1000) : (txt b.data.toList).length ≤ 10 + n := by
  have e : b.data.toList.length = b.size := by simp
  unfold txt
  rw [List.length_append, e]
  have := encN_le (n := (b.size : Int)) (by unfold I64; omega)
  unfold encN at this
  omega
theorem encV_le (h : Bool) (d : ByteArray) (hv : goodV h d) : (encV h d).length ≤ 300 := by
  unfold goodV at hv
  cases h
  · simp [encV, bol]
  · simp only [if_true] at hv
    have := txt_le d 256 hv (by omega)
    simp [encV, bol]; omega
theorem encP_le {lo hi : Int} (h1 : I64 lo) (h2 : I64 hi) : (encP lo hi).length ≤ 20 := by
  have := encN_le h1
  have := encN_le h2
  unfold encN at *
  unfold encP
  rw [List.length_append]; omega
theorem flat_le {α : Type} (e : α → List UInt8) (c : Nat) : ∀ l : List α, (∀ x ∈ l, (e x).length ≤ c) → (l.flatMap e).length ≤ l.length * c
  | [], _ => by simp
  | x :: l, h => by
    have h1 := flat_le e c l (fun y hy => h y (List.mem_cons_of_mem _ hy))
    have h2 := h x (List.mem_cons_self ..)
    simp only [List.flatMap_cons, List.length_append, List.length_cons, Nat.add_mul, Nat.one_mul]
    omega
/-- A right message is short. -/
theorem encF_le (m : Mg) (hI : m.In) (hO : OkM m) : (encF m).length ≤ 5000 := by
  have n1 := encN_le hI.node
  have n2 := encN_le hI.inc
  have n3 := encN_le hI.ses
  have n4 := encN_le hI.tx
  have n5 := encN_le hI.seq
  have n6 := encN_le hI.err
  have n7 := encN_le hI.n
  have n8 := encP_le hI.lo hI.hi
  unfold encF
  split
  · have h1 := hO.th.W (by assumption)
    have h2 := flat_le encE 350 m.W (fun x hx => by
      have hg := h1.1 x hx
      have := txt_le x.k 32 hg.1.2 (by omega)
      have := encV_le x.h x.d hg.2
      unfold encE; rw [List.length_append]; omega)
    have h3 := encN_le (n := (m.W.length : Int)) (by unfold I64; omega)
    simp only [List.length_append]
    omega
  split
  · simp only [List.length_append]; omega
  split
  · have := txt_le m.key 32 (hO.th.key (by omega)).1.2 (by omega)
    simp only [List.length_append, encT']; omega
  split
  · have hb : (bol m.hit).length = 1 := by cases m.hit <;> rfl
    split
    · have := encV_le m.has m.data (hO.th.full (.inl ⟨by assumption, by assumption⟩)).1
      simp only [List.length_append]; omega
    · simp only [List.length_append, List.length_nil]; omega
  split
  · have := txt_le m.key 32 (hO.th.key (by omega)).1.2 (by omega)
    simp only [List.length_append, encT']; omega
  split
  · split
    · have := encV_le m.has m.data (hO.th.full (.inr ⟨by assumption, by assumption⟩)).1
      simp only [List.length_append]; omega
    · simp only [List.length_append, List.length_nil]; omega
  split
  · have := txt_le m.key 32 (hO.th.key (by omega)).1.2 (by omega)
    have := encV_le m.has m.data (hO.th.value (by assumption))
    simp only [List.length_append, encT']; omega
  split
  · have h1 := hO.th.K (by assumption)
    have h2 := flat_le encT' 50 m.K (fun x hx => by
      have := txt_le x 32 (h1.1 x hx).2 (by omega)
      unfold encT'; omega)
    have h3 := encN_le (n := (m.K.length : Int)) (by unfold I64; omega)
    simp only [List.length_append]
    omega
  split
  · simp only [List.length_append]; omega
  split
  · simp only [List.length_append]; omega
  · simp only [List.length_append]; omega

end Go.Proofs.Ytiklpifaaogcpaa
