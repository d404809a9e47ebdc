/- Texts laid together: Kb Kb2. -/
import Derived.Test.YtiklpifaaogcpaaKm
import Derived.WalkKit
import Derived.WalkLawsBesides
import Derived.WalkSpells
import Derived.Below
import Derived.Deep.RegionHeld3
import Derived.Deep.QuietTactic
import Derived.BigQuiet
import Derived.Deep.DeepCutAuto
import Derived.Deep.DeepMust
import Derived.KernelRfl
import Derived.Lib.Hide
import Derived.Outline
import Derived.RegionTactic
import Derived.StillTailTactics
import Derived.Laws.IdiomStrings
import Derived.Handy
namespace Go.Proofs.Ytiklpifaaogcpaa
open Go.RowKit Go.Cl Go.Wr Go.Kc
set_option maxRecDepth 100000
set_option linter.unusedVariables false
set_option linter.unusedSimpArgs false


theorem ba0 (k : ByteArray) : (k.toList = []) = (k.size = 0) := by
  rw [ByteArray.toList_eq]
  apply propext
  rw [← List.length_eq_zero_iff, Array.length_toList]; rfl
theorem ba0' (k : ByteArray) : k.toList.isEmpty = decide (k.size = 0) := by
  rw [Bool.eq_iff_iff, List.isEmpty_iff, ba0]; simp
def goodK (k : ByteArray) : Prop := 1 ≤ k.size ∧ k.size ≤ 32
def goodV (h : Bool) (d : ByteArray) : Prop := if h then d.size ≤ 256 else d.size = 0
def goodP (lo hi : Int) : Prop := 0 ≤ lo ∧ lo ≤ 1099511627776 ∧ lo < hi ∧ (hi = 4611686018427387904 ∨ hi ≤ 1099511627777)
instance (k : ByteArray) : Decidable (goodK k) := by unfold goodK; infer_instance
instance (h : Bool) (d : ByteArray) : Decidable (goodV h d) := by unfold goodV; infer_instance
instance (lo hi : Int) : Decidable (goodP lo hi) := by unfold goodP; infer_instance
theorem c_between (n lo hi : Int) (w : World) : Calls Try.prog 59 #[.int .i64 n, .int .i64 lo, .int .i64 hi] w fun e w' => e = .returned (.bool (decide (lo ≤ n ∧ n ≤ hi))) ∧ w = w' := by
  go_enter Try.func59, Try.ntmps59
  go_wp2
  all_goals (go_ret; refine ⟨congrArg (fun b => Ending.returned (Value.bool b)) ?_, rfl⟩; rw [Bool.eq_iff_iff]; simp; try omega)
theorem c_in (n lo hi : Int) (w : World) : Calls Try.prog 32 #[.int .i64 n, .int .i64 lo, .int .i64 hi] w fun e w' => e = .returned (.bool (decide (lo ≤ n ∧ n ≤ hi))) ∧ w = w' := by
  go_enter Try.func32, Try.ntmps32
  go_wp2
  all_goals (go_ret; refine ⟨congrArg (fun b => Ending.returned (Value.bool b)) ?_, rfl⟩; rw [Bool.eq_iff_iff]; simp; try omega)
theorem c_known (n : Int) (w : World) : Calls Try.prog 28 #[.int .i64 n] w fun e w' => e = .returned (.bool (decide (1 ≤ n ∧ n ≤ 11))) ∧ w = w' := by
  go_enter Try.func28, Try.ntmps28
  go_wp2
  all_goals (go_ret; refine ⟨congrArg (fun b => Ending.returned (Value.bool b)) ?_, rfl⟩; rw [Bool.eq_iff_iff]; simp; try omega)
theorem c_GoodKey (k : ByteArray) (w : World) : Calls Try.prog 35 #[.string k] w fun e w' => e = .returned (.bool (decide (goodK k))) ∧ Below w.heap.size w w' := by
  go_enter Try.func35, Try.ntmps35
  go_wp2
  all_goals (go_ret; refine ⟨congrArg (fun b => Ending.returned (Value.bool b)) ?_, (by (repeat (first | (with_reducible assumption) | (with_reducible exact Below.refl _ _) | (with_reducible refine below_drew ?_) | (with_reducible refine below_drewN ?_ _) | (with_reducible refine below_alloc ?_ _))))⟩; rw [Bool.eq_iff_iff]; (try simp only [decide_eq_true_eq, Bool.and_eq_true]); (try simp only [ba0, ba0', goodK, goodV, goodP, Bool.or_eq_true, Bool.and_eq_true, decide_eq_true_eq, decide_eq_false_iff_not, beq_iff_eq, Bool.false_eq_true, if_true, if_false, iff_true, true_iff, false_iff, iff_false, Bool.not_eq_true', Bool.not_eq_false', Nat.not_le, Nat.not_lt] at *); try omega)
theorem c_GoodValue (h : Bool) (d : ByteArray) (w : World) : Calls Try.prog 37 #[.agg #[.bool h, .string d]] w fun e w' => e = .returned (.bool (decide (goodV h d))) ∧ Below w.heap.size w w' := by
  cases h
  all_goals
    go_enter Try.func37, Try.ntmps37
    go_wp2
    all_goals (go_ret; refine ⟨congrArg (fun b => Ending.returned (Value.bool b)) ?_, (by (repeat (first | (with_reducible assumption) | (with_reducible exact Below.refl _ _) | (with_reducible refine below_drew ?_) | (with_reducible refine below_drewN ?_ _) | (with_reducible refine below_alloc ?_ _))))⟩; rw [Bool.eq_iff_iff]; (try simp only [decide_eq_true_eq, Bool.and_eq_true]); (try simp only [ba0, ba0', goodK, goodV, goodP, Bool.or_eq_true, Bool.and_eq_true, decide_eq_true_eq, decide_eq_false_iff_not, beq_iff_eq, Bool.false_eq_true, if_true, if_false, iff_true, true_iff, false_iff, iff_false, Bool.not_eq_true', Bool.not_eq_false', Nat.not_le, Nat.not_lt] at *); try omega)
set_option maxHeartbeats 2000000 in
theorem c_Good (k : ByteArray) (h : Bool) (d : ByteArray) (lo hi : Int) (w : World) : Calls Try.prog 73 #[.agg #[.string k, .bool h, .string d, .int .i64 lo, .int .i64 hi]] w fun e w' => e = .returned (.bool (decide (goodK k ∧ goodV h d ∧ goodP lo hi))) ∧ Below w.heap.size w w' := by
  cases h
  all_goals
    go_enter Try.func73, Try.ntmps73
    go_wp2
    all_goals (go_ret; refine ⟨congrArg (fun b => Ending.returned (Value.bool b)) ?_, (by (repeat (first | (with_reducible assumption) | (with_reducible exact Below.refl _ _) | (with_reducible refine below_drew ?_) | (with_reducible refine below_drewN ?_ _) | (with_reducible refine below_alloc ?_ _))))⟩; rw [Bool.eq_iff_iff]; (try simp only [decide_eq_true_eq, Bool.and_eq_true]); (try simp only [ba0, ba0', goodK, goodV, goodP, Bool.or_eq_true, Bool.and_eq_true, decide_eq_true_eq, decide_eq_false_iff_not, beq_iff_eq, Bool.false_eq_true, if_true, if_false, iff_true, true_iff, false_iff, iff_false, Bool.not_eq_true', Bool.not_eq_false', Nat.not_le, Nat.not_lt] at *); try omega)
theorem good_key (k : ByteArray) : decide (goodK k ∧ goodV false ⟨#[]⟩ ∧ goodP 0 1) = decide (goodK k) := by
  rw [Bool.eq_iff_iff]; simp only [decide_eq_true_eq]; refine ⟨fun h => h.1, fun h => ⟨h, rfl, ?_⟩⟩; unfold goodP; omega
theorem good_value (h : Bool) (d : ByteArray) : decide (goodK ⟨#[107]⟩ ∧ goodV h d ∧ goodP 0 1) = decide (goodV h d) := by
  rw [Bool.eq_iff_iff]; simp only [decide_eq_true_eq]; refine ⟨fun h => h.2.1, fun h => ⟨?_, h, ?_⟩⟩
  · exact ⟨by decide, by decide⟩
  · unfold goodP; omega
theorem good_pin (lo hi : Int) : decide (goodK ⟨#[107]⟩ ∧ goodV false ⟨#[]⟩ ∧ goodP lo hi) = decide (goodP lo hi) := by
  rw [Bool.eq_iff_iff]; simp only [decide_eq_true_eq]; refine ⟨fun h => h.2.2, fun h => ⟨?_, rfl, h⟩⟩
  exact ⟨by decide, by decide⟩
theorem c_goodKey (k : ByteArray) (w : World) : Calls Try.prog 61 #[.string k] w fun e w' => e = .returned (.bool (decide (goodK k))) ∧ Below w.heap.size w w' := by
  have HC := Lib.hid (c_Good k false ⟨#[]⟩ 0 1 w)
  rw [good_key] at HC
  go_enter Try.func61, Try.ntmps61
  go_wp2_with fail
  refine HC.out.mono ?_; rintro e w1 ⟨rfl, hb1⟩
  go_wp2
  go_ret
  exact ⟨rfl, hb1⟩
theorem c_goodValue (h : Bool) (d : ByteArray) (w : World) : Calls Try.prog 62 #[.agg #[.bool h, .string d]] w fun e w' => e = .returned (.bool (decide (goodV h d))) ∧ Below w.heap.size w w' := by
  have HC := Lib.hid (c_Good ⟨#[107]⟩ h d 0 1 (w.alloc (.cells #[.bool h, .string d] 25)))
  rw [good_value] at HC
  go_enter Try.func62, Try.ntmps62
  go_wp2_with fail
  refine HC.out.mono ?_; rintro e w1 ⟨rfl, hb1⟩
  go_wp2
  go_ret
  exact ⟨rfl, below_call (below_alloc (Below.refl _ _) _) hb1⟩
theorem c_goodPin (lo hi : Int) (w : World) : Calls Try.prog 64 #[.agg #[.int .i64 lo, .int .i64 hi]] w fun e w' => e = .returned (.bool (decide (goodP lo hi))) ∧ Below w.heap.size w w' := by
  have HC := Lib.hid (c_Good ⟨#[107]⟩ false ⟨#[]⟩ lo hi (w.alloc (.cells #[.int .i64 lo, .int .i64 hi] 23)))
  rw [good_pin] at HC
  go_enter Try.func64, Try.ntmps64
  go_wp2_with fail
  refine HC.out.mono ?_; rintro e w1 ⟨rfl, hb1⟩
  go_wp2
  go_ret
  exact ⟨rfl, below_call (below_alloc (Below.refl _ _) _) hb1⟩
def _root_.Go.Kc.Wt.good (x : Wt) : Prop := goodK x.k ∧ goodV x.h x.d
instance (x : Wt) : Decidable x.good := by unfold Wt.good; infer_instance
theorem c_badW (x : Wt) (w : World) : Calls Try.prog 60 #[.agg #[.string x.k, .bool x.h, .string x.d]] w fun e w' => e = .returned (.bool (decide (¬ x.good))) ∧ Below w.heap.size w w' := by
  have HK := Lib.hid (c_goodKey x.k (w.alloc (.cells #[.string x.k, .bool x.h, .string x.d] 49)))
  have HV := Lib.hid (fun W => c_goodValue x.h x.d W)
  have hb0 : Below w.heap.size w (w.alloc (.cells #[.string x.k, .bool x.h, .string x.d] 49)) := below_alloc (Below.refl _ _) _
  have hz := hp_alloc_new w (.cells #[.string x.k, .bool x.h, .string x.d] 49)
  have HG : Hid (∀ a b, decide (goodK x.k) = a → decide (goodV x.h x.d) = b → decide (¬ x.good) = !(a && b)) := Lib.hid fun a b h1 h2 => by
    subst h1 h2; unfold Wt.good; rw [Bool.eq_iff_iff]; simp
  generalize decide (goodK x.k) = a at *
  generalize decide (goodV x.h x.d) = b at *
  rw [HG.out a b rfl rfl]
  clear HG
  cases a
  · go_enter Try.func60, Try.ntmps60
    go_wp2_with fail
    refine HK.out.mono ?_; rintro e w1 ⟨rfl, hb1⟩
    go_wp2
    go_ret
    exact ⟨rfl, below_call hb0 hb1⟩
  · go_enter Try.func60, Try.ntmps60
    go_wp2_with fail
    refine HK.out.mono ?_; rintro e w1 ⟨rfl, hb1⟩
    have hz1 := hp_cell (hp_below hb1 hz)
    go_wp2_with fail
    refine (HV.out w1).mono ?_; rintro e w2 ⟨rfl, hb2⟩
    go_wp2
    go_ret
    exact ⟨by cases b <;> rfl, below_call (below_call hb0 hb1) hb2⟩
theorem c_badK (k : ByteArray) (w : World) : Calls Try.prog 65 #[.string k] w fun e w' => e = .returned (.bool (decide (¬ goodK k))) ∧ Below w.heap.size w w' := by
  have HK := Lib.hid (c_goodKey k w)
  have HG : Hid (∀ a, decide (goodK k) = a → decide (¬ goodK k) = !a) := Lib.hid fun a h1 => by
    subst h1; rw [Bool.eq_iff_iff]; simp
  generalize decide (goodK k) = a at *
  rw [HG.out a rfl]
  clear HG
  go_enter Try.func65, Try.ntmps65
  go_wp2_with fail
  refine HK.out.mono ?_; rintro e w1 ⟨rfl, hb1⟩
  go_wp2
  go_ret
  exact ⟨rfl, hb1⟩

end Go.Proofs.Ytiklpifaaogcpaa

namespace Go.Proofs.Ytiklpifaaogcpaa
open Go.RowKit Go.Cl Go.Wr Go.Kc
set_option maxRecDepth 100000
set_option linter.unusedVariables false
set_option linter.unusedSimpArgs false


theorem c_rGood (k : ByteArray) (h : Bool) (d : ByteArray) (lo hi : Int) (w : World) : Calls Try.prog 67 #[.agg #[.string k, .bool h, .string d, .int .i64 lo, .int .i64 hi]] w fun e w' => e = .returned (.bool (decide (goodK k ∧ goodV h d ∧ goodP lo hi))) ∧ Below w.heap.size w w' := by
  have hb0 : Below w.heap.size w (w.alloc (.cells #[.string k, .bool h, .string d, .int .i64 lo, .int .i64 hi] 122)) := below_alloc (Below.refl _ _) _
  have hz := hp_alloc_new w (.cells #[.string k, .bool h, .string d, .int .i64 lo, .int .i64 hi] 122)
  have HK := Lib.hid (c_GoodKey k (w.alloc (.cells #[.string k, .bool h, .string d, .int .i64 lo, .int .i64 hi] 122)))
  have HV := Lib.hid (fun W => c_GoodValue h d W)
  have HG : Hid (∀ a b, decide (goodK k) = a → decide (goodV h d) = b → decide (goodK k ∧ goodV h d ∧ goodP lo hi) = (a && (b && decide (goodP lo hi)))) := Lib.hid fun a b h1 h2 => by
    subst h1 h2; rw [Bool.eq_iff_iff]; simp
  generalize decide (goodK k) = a at *
  generalize decide (goodV h d) = b at *
  rw [HG.out a b rfl rfl]
  clear HG
  generalize hw0 : w.alloc (.cells #[.string k, .bool h, .string d, .int .i64 lo, .int .i64 hi] 122) = w0 at *
  generalize hzz : w.heap.size = zz at *
  cases a
  · have hc0 := hp_cell hz
    go_enter Try.func67, Try.ntmps67
    go_wp2_with fail
    refine HK.out.mono ?_; rintro e w1 ⟨rfl, hb1⟩
    go_wp2
    go_ret
    rw [← hzz] at *
    exact ⟨rfl, below_call hb0 hb1⟩
  · have hc0 := hp_cell hz
    go_enter Try.func67, Try.ntmps67
    go_wp2_with fail
    refine HK.out.mono ?_; rintro e w1 ⟨rfl, hb1⟩
    have hz1 := hp_below hb1 hz
    have hc1 := hp_cell hz1
    clear hc0
    go_wp2_with fail
    refine (HV.out w1).mono ?_; rintro e w2 ⟨rfl, hb2⟩
    have hz2 := hp_cell (hp_below hb2 hz1)
    clear hc1 hz1 hz
    have hbz : Below zz w w2 := by rw [← hzz] at *; exact below_call (below_call hb0 hb1) hb2
    clear hb0 hb1 hb2 HK HV
    cases b
    · go_wp2
      go_ret
      exact ⟨rfl, hbz⟩
    · go_wp2
      all_goals (go_ret; refine ⟨congrArg (fun b => Ending.returned (Value.bool b)) ?_, hbz⟩; rw [Bool.eq_iff_iff]; (try simp only [decide_eq_true_eq, Bool.and_eq_true, Bool.true_and]); (try simp only [ba0, ba0', goodK, goodV, goodP, Bool.or_eq_true, Bool.and_eq_true, decide_eq_true_eq, decide_eq_false_iff_not, beq_iff_eq, Bool.false_eq_true, if_true, if_false, iff_true, true_iff, false_iff, iff_false, Bool.not_eq_true', Bool.not_eq_false', Nat.not_le, Nat.not_lt] at *); try omega)
theorem c_rgoodPin (lo hi : Int) (w : World) : Calls Try.prog 36 #[.agg #[.int .i64 lo, .int .i64 hi]] w fun e w' => e = .returned (.bool (decide (goodP lo hi))) ∧ Below w.heap.size w w' := by
  have HC := Lib.hid (c_rGood ⟨#[107]⟩ false ⟨#[]⟩ lo hi (w.alloc (.cells #[.int .i64 lo, .int .i64 hi] 23)))
  rw [good_pin] at HC
  go_enter Try.func36, Try.ntmps36
  go_wp2_with fail
  refine HC.out.mono ?_; rintro e w1 ⟨rfl, hb1⟩
  go_wp2
  go_ret
  exact ⟨rfl, below_call (below_alloc (Below.refl _ _) _) hb1⟩
/-- Writes that are read off a slice; keys. -/
structure LsW (w : World) (p : Option Addr) (c : Nat) (L : List Wt) : Prop where
  cap : L.length ≤ c ∧ c ≤ maxLen
  at_ : ∀ (i : Nat) (x : Wt), L[i]? = some x → ∃ g o, p = some ⟨g, o, none⟩ ∧ g < w.heap.size ∧ w.cell? ⟨g, o + i * 3, none⟩ = some (.string x.k) ∧ w.cell? ⟨g, o + i * 3 + 1, none⟩ = some (.bool x.h) ∧ w.cell? ⟨g, o + i * 3 + 2, none⟩ = some (.string x.d)
structure LsS (w : World) (p : Option Addr) (c : Nat) (L : List ByteArray) : Prop where
  cap : L.length ≤ c ∧ c ≤ maxLen
  at_ : ∀ (i : Nat) (x : ByteArray), L[i]? = some x → ∃ g o, p = some ⟨g, o, none⟩ ∧ g < w.heap.size ∧ w.cell? ⟨g, o + i, none⟩ = some (.string x)
theorem LsW.below {w W : World} {p : Option Addr} {c : Nat} {L : List Wt} (h : LsW w p c L) (hb : Below w.heap.size w W) : LsW W p c L := ⟨h.cap, fun i x hi => by
  obtain ⟨g, o, h0, h1, h2, h3, h4⟩ := h.at_ i x hi
  exact ⟨g, o, h0, Nat.lt_of_lt_of_le h1 hb.size, (hb.cell (p := ⟨g, _, none⟩) h1).trans h2, (hb.cell (p := ⟨g, _, none⟩) h1).trans h3, (hb.cell (p := ⟨g, _, none⟩) h1).trans h4⟩⟩
theorem LsS.below {w W : World} {p : Option Addr} {c : Nat} {L : List ByteArray} (h : LsS w p c L) (hb : Below w.heap.size w W) : LsS W p c L := ⟨h.cap, fun i x hi => by
  obtain ⟨g, o, h0, h1, h2⟩ := h.at_ i x hi
  exact ⟨g, o, h0, Nat.lt_of_lt_of_le h1 hb.size, (hb.cell (p := ⟨g, _, none⟩) h1).trans h2⟩⟩
theorem row_lsW {col : Nat → Nat} {i : Nat} {w : World} {p : Option Addr} {c : Nat} {L : List Wt} (h : Row col i w 49 3 (.slice p L.length c) L.length (L.flatMap encW)) : LsW w p c L := by
  rcases Nat.eq_zero_or_pos L.length with h0 | h0
  · obtain rfl : L = [] := List.eq_nil_of_length_eq_zero h0
    refine ⟨⟨Nat.zero_le _, ?_⟩, fun i x hi => by simp at hi⟩
    rcases h.own.2 with ⟨e, _⟩ | ⟨g, cap, cur, e, _, _, _, hm, _⟩
    · injection e with _ _ e3; rw [e3]; exact Nat.zero_le _
    · injection e with _ _ e3; rw [e3]; exact hm
  · obtain ⟨g, c', cur, hv, hp, hnc, hcm, _, _, _⟩ := h.pos h0
    injection hv with e1 _ e3
    subst e1 e3
    refine ⟨⟨hnc, hcm⟩, fun i x hi => ⟨g, 0, rfl, hp_lt hp, ?_, ?_, ?_⟩⟩
    all_goals
      obtain ⟨hlt, e⟩ := List.getElem?_eq_some_iff.1 hi
      subst e
    · rw [Nat.zero_add]; exact h.cell (g := g) rfl (by simpa [encW] using encW_ok.get L i 0 hlt (by decide))
    · rw [Nat.zero_add]; exact h.cell (g := g) rfl (by simpa [encW] using encW_ok.get L i 1 hlt (by decide))
    · rw [Nat.zero_add]; exact h.cell (g := g) rfl (by simpa [encW] using encW_ok.get L i 2 hlt (by decide))
theorem row_lsS {col : Nat → Nat} {i : Nat} {w : World} {p : Option Addr} {c : Nat} {L : List ByteArray} (h : Row col i w 9 1 (.slice p L.length c) L.length (L.flatMap encS)) : LsS w p c L := by
  rcases Nat.eq_zero_or_pos L.length with h0 | h0
  · obtain rfl : L = [] := List.eq_nil_of_length_eq_zero h0
    refine ⟨⟨Nat.zero_le _, ?_⟩, fun i x hi => by simp at hi⟩
    rcases h.own.2 with ⟨e, _⟩ | ⟨g, cap, cur, e, _, _, _, hm, _⟩
    · injection e with _ _ e3; rw [e3]; exact Nat.zero_le _
    · injection e with _ _ e3; rw [e3]; exact hm
  · obtain ⟨g, c', cur, hv, hp, hnc, hcm, _, _, _⟩ := h.pos h0
    injection hv with e1 _ e3
    subst e1 e3
    refine ⟨⟨hnc, hcm⟩, fun i x hi => ⟨g, 0, rfl, hp_lt hp, ?_⟩⟩
    obtain ⟨hlt, e⟩ := List.getElem?_eq_some_iff.1 hi
    subst e
    rw [Nat.zero_add]; exact h.cell (g := g) rfl (by simpa [encS] using encS_ok.get L i 0 hlt (by decide))

end Go.Proofs.Ytiklpifaaogcpaa
