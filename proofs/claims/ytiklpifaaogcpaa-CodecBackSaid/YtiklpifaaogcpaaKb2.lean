/- Tests of the reference; lists that are read. -/
import Derived.Test.YtiklpifaaogcpaaKb
import Derived.WalkKit
import Derived.WalkLawsBesides
import Derived.WalkSpells
import Derived.Below
import Derived.Deep.RegionHeld3
import Derived.Deep.QuietTactic
import Derived.BigQuiet
import Derived.Deep.DeepCutAuto
import Derived.Deep.DeepMust
import Derived.KernelRfl
import Derived.Lib.Hide
import Derived.Outline
import Derived.RegionTactic
import Derived.StillTailTactics
import Derived.Laws.IdiomStrings
import Derived.Handy
namespace Go.Proofs.Ytiklpifaaogcpaa
open Go.RowKit Go.Cl Go.Wr Go.Kc
set_option maxRecDepth 100000
set_option linter.unusedVariables false
set_option linter.unusedSimpArgs false


theorem c_rGood (k : ByteArray) (h : Bool) (d : ByteArray) (lo hi : Int) (w : World) : Calls Try.prog 67 #[.agg #[.string k, .bool h, .string d, .int .i64 lo, .int .i64 hi]] w fun e w' => e = .returned (.bool (decide (goodK k ∧ goodV h d ∧ goodP lo hi))) ∧ Below w.heap.size w w' := by
  have hb0 : Below w.heap.size w (w.alloc (.cells #[.string k, .bool h, .string d, .int .i64 lo, .int .i64 hi] 122)) := below_alloc (Below.refl _ _) _
  have hz := hp_alloc_new w (.cells #[.string k, .bool h, .string d, .int .i64 lo, .int .i64 hi] 122)
  have HK := Lib.hid (c_GoodKey k (w.alloc (.cells #[.string k, .bool h, .string d, .int .i64 lo, .int .i64 hi] 122)))
  have HV := Lib.hid (fun W => c_GoodValue h d W)
  have HG : Hid (∀ a b, decide (goodK k) = a → decide (goodV h d) = b → decide (goodK k ∧ goodV h d ∧ goodP lo hi) = (a && (b && decide (goodP lo hi)))) := Lib.hid fun a b h1 h2 => by
    subst h1 h2; rw [Bool.eq_iff_iff]; simp
  generalize decide (goodK k) = a at *
  generalize decide (goodV h d) = b at *
  rw [HG.out a b rfl rfl]
  clear HG
  generalize hw0 : w.alloc (.cells #[.string k, .bool h, .string d, .int .i64 lo, .int .i64 hi] 122) = w0 at *
  generalize hzz : w.heap.size = zz at *
  cases a
  · have hc0 := hp_cell hz
    go_enter Try.func67, Try.ntmps67
    go_wp2_with fail
    refine HK.out.mono ?_; rintro e w1 ⟨rfl, hb1⟩
    go_wp2
    go_ret
    rw [← hzz] at *
    exact ⟨rfl, below_call hb0 hb1⟩
  · have hc0 := hp_cell hz
    go_enter Try.func67, Try.ntmps67
    go_wp2_with fail
    refine HK.out.mono ?_; rintro e w1 ⟨rfl, hb1⟩
    have hz1 := hp_below hb1 hz
    have hc1 := hp_cell hz1
    clear hc0
    go_wp2_with fail
    refine (HV.out w1).mono ?_; rintro e w2 ⟨rfl, hb2⟩
    have hz2 := hp_cell (hp_below hb2 hz1)
    clear hc1 hz1 hz
    have hbz : Below zz w w2 := by rw [← hzz] at *; exact below_call (below_call hb0 hb1) hb2
    clear hb0 hb1 hb2 HK HV
    cases b
    · go_wp2
      go_ret
      exact ⟨rfl, hbz⟩
    · go_wp2
      all_goals (go_ret; refine ⟨congrArg (fun b => Ending.returned (Value.bool b)) ?_, hbz⟩; rw [Bool.eq_iff_iff]; (try simp only [decide_eq_true_eq, Bool.and_eq_true, Bool.true_and]); (try simp only [ba0, ba0', goodK, goodV, goodP, Bool.or_eq_true, Bool.and_eq_true, decide_eq_true_eq, decide_eq_false_iff_not, beq_iff_eq, Bool.false_eq_true, if_true, if_false, iff_true, true_iff, false_iff, iff_false, Bool.not_eq_true', Bool.not_eq_false', Nat.not_le, Nat.not_lt] at *); try omega)
theorem c_rgoodPin (lo hi : Int) (w : World) : Calls Try.prog 36 #[.agg #[.int .i64 lo, .int .i64 hi]] w fun e w' => e = .returned (.bool (decide (goodP lo hi))) ∧ Below w.heap.size w w' := by
  have HC := Lib.hid (c_rGood ⟨#[107]⟩ false ⟨#[]⟩ lo hi (w.alloc (.cells #[.int .i64 lo, .int .i64 hi] 23)))
  rw [good_pin] at HC
  go_enter Try.func36, Try.ntmps36
  go_wp2_with fail
  refine HC.out.mono ?_; rintro e w1 ⟨rfl, hb1⟩
  go_wp2
  go_ret
  exact ⟨rfl, below_call (below_alloc (Below.refl _ _) _) hb1⟩
/-- Writes that are read off a slice; keys. -/
structure LsW (w : World) (p : Option Addr) (c : Nat) (L : List Wt) : Prop where
  cap : L.length ≤ c ∧ c ≤ maxLen
  at_ : ∀ (i : Nat) (x : Wt), L[i]? = some x → ∃ g o, p = some ⟨g, o, none⟩ ∧ g < w.heap.size ∧ w.cell? ⟨g, o + i * 3, none⟩ = some (.string x.k) ∧ w.cell? ⟨g, o + i * 3 + 1, none⟩ = some (.bool x.h) ∧ w.cell? ⟨g, o + i * 3 + 2, none⟩ = some (.string x.d)
structure LsS (w : World) (p : Option Addr) (c : Nat) (L : List ByteArray) : Prop where
  cap : L.length ≤ c ∧ c ≤ maxLen
  at_ : ∀ (i : Nat) (x : ByteArray), L[i]? = some x → ∃ g o, p = some ⟨g, o, none⟩ ∧ g < w.heap.size ∧ w.cell? ⟨g, o + i, none⟩ = some (.string x)
theorem LsW.below {w W : World} {p : Option Addr} {c : Nat} {L : List Wt} (h : LsW w p c L) (hb : Below w.heap.size w W) : LsW W p c L := ⟨h.cap, fun i x hi => by
  obtain ⟨g, o, h0, h1, h2, h3, h4⟩ := h.at_ i x hi
  exact ⟨g, o, h0, Nat.lt_of_lt_of_le h1 hb.size, (hb.cell (p := ⟨g, _, none⟩) h1).trans h2, (hb.cell (p := ⟨g, _, none⟩) h1).trans h3, (hb.cell (p := ⟨g, _, none⟩) h1).trans h4⟩⟩
theorem LsS.below {w W : World} {p : Option Addr} {c : Nat} {L : List ByteArray} (h : LsS w p c L) (hb : Below w.heap.size w W) : LsS W p c L := ⟨h.cap, fun i x hi => by
  obtain ⟨g, o, h0, h1, h2⟩ := h.at_ i x hi
  exact ⟨g, o, h0, Nat.lt_of_lt_of_le h1 hb.size, (hb.cell (p := ⟨g, _, none⟩) h1).trans h2⟩⟩
theorem row_lsW {col : Nat → Nat} {i : Nat} {w : World} {p : Option Addr} {c : Nat} {L : List Wt} (h : Row col i w 49 3 (.slice p L.length c) L.length (L.flatMap encW)) : LsW w p c L := by
  rcases Nat.eq_zero_or_pos L.length with h0 | h0
  · obtain rfl : L = [] := List.eq_nil_of_length_eq_zero h0
    refine ⟨⟨Nat.zero_le _, ?_⟩, fun i x hi => by simp at hi⟩
    rcases h.own.2 with ⟨e, _⟩ | ⟨g, cap, cur, e, _, _, _, hm, _⟩
    · injection e with _ _ e3; rw [e3]; exact Nat.zero_le _
    · injection e with _ _ e3; rw [e3]; exact hm
  · obtain ⟨g, c', cur, hv, hp, hnc, hcm, _, _, _⟩ := h.pos h0
    injection hv with e1 _ e3
    subst e1 e3
    refine ⟨⟨hnc, hcm⟩, fun i x hi => ⟨g, 0, rfl, hp_lt hp, ?_, ?_, ?_⟩⟩
    all_goals
      obtain ⟨hlt, e⟩ := List.getElem?_eq_some_iff.1 hi
      subst e
    · rw [Nat.zero_add]; exact h.cell (g := g) rfl (by simpa [encW] using encW_ok.get L i 0 hlt (by decide))
    · rw [Nat.zero_add]; exact h.cell (g := g) rfl (by simpa [encW] using encW_ok.get L i 1 hlt (by decide))
    · rw [Nat.zero_add]; exact h.cell (g := g) rfl (by simpa [encW] using encW_ok.get L i 2 hlt (by decide))
theorem row_lsS {col : Nat → Nat} {i : Nat} {w : World} {p : Option Addr} {c : Nat} {L : List ByteArray} (h : Row col i w 9 1 (.slice p L.length c) L.length (L.flatMap encS)) : LsS w p c L := by
  rcases Nat.eq_zero_or_pos L.length with h0 | h0
  · obtain rfl : L = [] := List.eq_nil_of_length_eq_zero h0
    refine ⟨⟨Nat.zero_le _, ?_⟩, fun i x hi => by simp at hi⟩
    rcases h.own.2 with ⟨e, _⟩ | ⟨g, cap, cur, e, _, _, _, hm, _⟩
    · injection e with _ _ e3; rw [e3]; exact Nat.zero_le _
    · injection e with _ _ e3; rw [e3]; exact hm
  · obtain ⟨g, c', cur, hv, hp, hnc, hcm, _, _, _⟩ := h.pos h0
    injection hv with e1 _ e3
    subst e1 e3
    refine ⟨⟨hnc, hcm⟩, fun i x hi => ⟨g, 0, rfl, hp_lt hp, ?_⟩⟩
    obtain ⟨hlt, e⟩ := List.getElem?_eq_some_iff.1 hi
    subst e
    rw [Nat.zero_add]; exact h.cell (g := g) rfl (by simpa [encS] using encS_ok.get L i 0 hlt (by decide))

end Go.Proofs.Ytiklpifaaogcpaa
