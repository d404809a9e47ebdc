/- Bags: the reference's loops. -/
import Derived.Test.YtgacbfbjikjanaaBag3
import Derived.WalkKit
import Derived.WalkLawsBesides
import Derived.WalkSpells
import Derived.Below
import Derived.Deep.RegionHeld3
import Derived.Deep.QuietTactic
import Derived.BigQuiet
import Derived.Deep.DeepCutAuto
import Derived.Deep.DeepMust
import Derived.KernelRfl
import Derived.Lib.Hide
import Derived.Outline
import Derived.RegionTactic
import Derived.StillTailTactics
namespace Go.Proofs.Ytgacbfbjikjanaa
open Go.RowKit Go.Cl
set_option maxRecDepth 100000
set_option linter.unusedVariables false
set_option linter.unusedSimpArgs false


def inB {α : Type} (L : List α) (I : Int) : Bool := decide (0 ≤ I) && decide (I < (L.length : Int))
def putB {α : Type} (L : List α) (most : Int) : Bool := decide ((L.length : Int) < most)
def putL {α : Type} (L : List α) (most : Int) (m : α) : List α := if putB L most then L ++ [m] else L
def putN {α : Type} (L : List α) (most lost : Int) : Int := if putB L most then lost else wrap64 (lost + 1)
def remL {α : Type} (L : List α) (I : Int) : List α := if inB L I then L.eraseIdx I.toNat else L
def getD {α : Type} (L : List α) (I : Int) (z : α) : α := if inB L I then L.getD I.toNat z else z
theorem inB_iff {α : Type} {L : List α} {I : Int} : inB L I = true ↔ 0 ≤ I ∧ I < (L.length : Int) := by simp [inB]
theorem inB_cases {α : Type} (L : List α) (I : Int) : (∃ j : Nat, I = (j : Int) ∧ j < L.length ∧ inB L I = true) ∨ ((I < 0 ∨ (L.length : Int) ≤ I) ∧ inB L I = false) := by
  by_cases h : 0 ≤ I ∧ I < (L.length : Int)
  · left; exact ⟨I.toNat, by omega, by omega, inB_iff.2 h⟩
  · right
    refine ⟨by omega, ?_⟩
    cases hb : inB L I with
    | false => rfl
    | true => exact absurd (inB_iff.1 hb) h
theorem Bag.paint {α : Type} {T e s : Nat} {enc : α → List Value} {col : Nat → Nat} {i : Nat} {w w' : World} {b : Nat} {L : List α} {most lost : Int} (h : Bag T e s enc col i w b L most lost)
    (hb' : Below w.heap.size w w') : Bag T e s enc (Cl.paint col w i) i w' b L most lost := by
  obtain ⟨⟨v, hb, hr⟩, h1, h2, h3⟩ := h
  exact ⟨⟨v, hb.below hb', hr.below hb'⟩, h1, h2, h3⟩
theorem er_eq {α : Type} (L : List α) (k J : Nat) (hk : k < L.length) (hJ : k = J) : (L.take (k + 1)).eraseIdx J = (L.take k).eraseIdx J := by
  subst hJ
  rw [List.take_succ_eq_append_getElem hk, List.eraseIdx_append_of_length_le (by simp; omega), List.eraseIdx_of_length_le (l := L.take k) (by simp; omega)]
  simp [Nat.min_eq_left (Nat.le_of_lt hk)]
theorem er_ne {α : Type} (L : List α) (k J : Nat) (hk : k < L.length) (hne : k ≠ J) : (L.take (k + 1)).eraseIdx J = (L.take k).eraseIdx J ++ [L[k]] := by
  rw [List.take_succ_eq_append_getElem hk]
  by_cases h : J < k
  · rw [List.eraseIdx_append_of_lt_length (by simp; omega)]
  · rw [List.eraseIdx_of_length_le (by simp; omega), List.eraseIdx_of_length_le (by simp; omega)]


theorem bs_put (col : Nat → Nat) (i : Nat) (w : World) (b : Nat) (L : List ByteArray) (most lost : Int) (m : ByteArray) (h : Bag 88 9 1 encS col i w b L most lost) :
    Calls Try.prog 40 #[.pointer (some ⟨b, 0, none⟩), .string m] w fun e w' => e = .returned (.bool (putB L most)) ∧ Bag 88 9 1 encS (paint col w i) i w' b (putL L most (m)) most (putN L most lost) ∧ Ch col i w w' := by
  cases hb : putB L most with
  | true => simpa only [putL, putN, hb, if_true] using bs_put_room col i w b L most lost m h (by simpa [putB] using hb)
  | false => simpa only [putL, putN, hb, Bool.false_eq_true, if_false] using bs_put_full col i w b L most lost m h (by simpa [putB] using hb)
theorem bs_at (col : Nat → Nat) (i : Nat) (w : World) (b : Nat) (L : List ByteArray) (most lost : Int) (h : Bag 88 9 1 encS col i w b L most lost) (I : Int) :
    Calls Try.prog 39 #[.pointer (some ⟨b, 0, none⟩), .int .i64 I] w fun e w' => e = .returned (.tuple #[.string (getD L I ⟨#[]⟩), .bool (inB L I)]) ∧ w = w' := by
  rcases inB_cases L I with ⟨j, rfl, hj, hb⟩ | ⟨hI, hb⟩
  · have := bs_at_ok col i w b L most lost h j hj
    simpa [hb, getD, List.getD, hj] using this
  · have := bs_at_no col i w b L most lost h I hI
    simpa [hb, getD] using this
theorem bs_take (col : Nat → Nat) (i : Nat) (w : World) (b : Nat) (L : List ByteArray) (most lost : Int) (h : Bag 88 9 1 encS col i w b L most lost) (I : Int) :
    Calls Try.prog 38 #[.pointer (some ⟨b, 0, none⟩), .int .i64 I] w fun e w' => e = .returned (.tuple #[.string (getD L I ⟨#[]⟩), .bool (inB L I)]) ∧ Bag 88 9 1 encS (paint col w i) i w' b (remL L I) most lost ∧ Ch col i w w' := by
  rcases inB_cases L I with ⟨j, rfl, hj, hb⟩ | ⟨hI, hb⟩
  · have := bs_take_ok col i w b L most lost h j hj
    simpa [hb, getD, List.getD, hj, remL] using this
  · have := bs_take_no col i w b L most lost h I hI
    refine this.mono ?_
    rintro e w' ⟨rfl, rfl⟩
    exact ⟨by simp [hb, getD], by simpa [remL, hb] using h.paint (Below.refl _ _), Ch.refl⟩
theorem bs_double (col : Nat → Nat) (i : Nat) (w : World) (b : Nat) (L : List ByteArray) (most lost : Int) (h : Bag 88 9 1 encS col i w b L most lost) (I : Int) :
    Calls Try.prog 41 #[.pointer (some ⟨b, 0, none⟩), .int .i64 I] w fun e w' => e = .returned (.bool (inB L I && putB L most)) ∧
      Bag 88 9 1 encS (paint col w i) i w' b (if inB L I then putL L most (getD L I ⟨#[]⟩) else L) most (if inB L I then putN L most lost else lost) ∧ Ch col i w w' := by
  rcases inB_cases L I with ⟨j, rfl, hj, hb⟩ | ⟨hI, hb⟩
  · cases hp : putB L most with
    | true =>
      have := bs_double_room col i w b L most lost h j hj (by simpa [putB] using hp)
      simpa [hb, hp, getD, List.getD, hj, putL, putN] using this
    | false =>
      have := bs_double_full col i w b L most lost h j hj (by simpa [putB] using hp)
      simpa [hb, hp, getD, List.getD, hj, putL, putN] using this
  · have := bs_double_no col i w b L most lost h I hI
    refine this.mono ?_
    rintro e w' ⟨rfl, rfl⟩
    exact ⟨by simp [hb], by simpa [hb] using h.paint (Below.refl _ _), Ch.refl⟩


theorem br_at_ok (col : Nat → Nat) (i : Nat) (w : World) (b : Nat) (L : List ByteArray) (most lost : Int) (h : Bag 34 9 1 encS col i w b L most lost) (j : Nat) (hj : j < L.length) :
    Calls Try.prog 49 #[.pointer (some ⟨b, 0, none⟩), .int .i64 j] w fun e w' => e = .returned (.tuple #[.string L[j], .bool true]) ∧ w = w' := by
  obtain ⟨⟨v, hb, hr⟩, h1, h2, h3⟩ := h
  obtain ⟨g, c, cur, rfl, hg, hnc, hcm, hcs, htk, hgc⟩ := hr.pos (by omega)
  have cb := hp_cell hb.hp
  have hcell : w.cell? ⟨g, j, none⟩ = some (.string L[j]) := hr.cell (g := g) rfl (by have := encS_ok.get L j 0 hj (by omega); simpa [encS] using this)
  have hj0 : (0 : Int) ≤ (j : Int) := by omega
  go_enter Try.func49, Try.ntmps49
  go_wp2
  go_loop [6] (fun t => ∃ k : Nat, k ≤ j ∧ t = .int .i64 k) (fun t => j + 1 - (intOf t).toNat)
  case atStart => exact ⟨0, Nat.zero_le _, rfl⟩
  case round =>
    obtain ⟨k, hk, rfl⟩ := hrel
    have hlt : k < L.length := by omega
    by_cases hkj : k = j
    · obtain rfl : j = k := hkj.symm
      go_wp2
      go_ret2
      exact ⟨rfl, rfl⟩
    · have hne : ((k : Int) == (j : Int)) = false := by simp; omega
      have hk' : k < j := by omega
      clear hkj hk
      go_wp2
      go_round
      case rel => exact ⟨k + 1, by omega, by go_num⟩
      case measure => simp [intOf]; omega
theorem br_at_no (col : Nat → Nat) (i : Nat) (w : World) (b : Nat) (L : List ByteArray) (most lost : Int) (h : Bag 34 9 1 encS col i w b L most lost) (I : Int) (hI : I < 0 ∨ (L.length : Int) ≤ I) :
    Calls Try.prog 49 #[.pointer (some ⟨b, 0, none⟩), .int .i64 I] w fun e w' => e = .returned (.tuple #[(.string ⟨#[]⟩), .bool false]) ∧ w = w' := by
  obtain ⟨⟨v, hb, hr⟩, h1, h2, h3⟩ := h
  obtain ⟨p, c, rfl⟩ := hr.form
  have cb := hp_cell hb.hp
  go_enter Try.func49, Try.ntmps49
  go_wp2
  go_loop [6] (fun t => ∃ k : Nat, k ≤ L.length ∧ t = .int .i64 k) (fun t => L.length + 1 - (intOf t).toNat)
  case atStart => exact ⟨0, Nat.zero_le _, rfl⟩
  case round =>
    obtain ⟨k, hk, rfl⟩ := hrel
    by_cases hlt : k < L.length
    · have hne : ((k : Int) == I) = false := by simp; omega
      clear hI
      go_wp2
      go_round
      case rel => exact ⟨k + 1, by omega, by go_num⟩
      case measure => simp [intOf]; omega
    · clear hI
      go_wp2
      go_ret2
      exact ⟨rfl, rfl⟩

theorem br_double_room (col : Nat → Nat) (i : Nat) (w : World) (b : Nat) (L : List ByteArray) (most lost : Int) (h : Bag 34 9 1 encS col i w b L most lost) (j : Nat) (hj : j < L.length) (hn : (L.length : Int) < most) :
    Calls Try.prog 48 #[.pointer (some ⟨b, 0, none⟩), .int .i64 j] w fun e w' => e = .returned (.bool true) ∧ Bag 34 9 1 encS (paint col w i) i w' b (L ++ [L[j]]) most lost ∧ Ch col i w w' := by
  have hat := br_at_ok col i w b L most lost h j hj
  have hput := br_put_room col i w b L most lost L[j] h hn
  clear hn
  go_enter Try.func48, Try.ntmps48
  go_wp2_with (first | (go_at_call 49; refine hat.mono ?_; rintro e w' ⟨rfl, rfl⟩) | (go_at_call 46; refine hput.mono ?_; rintro e w' ⟨rfl, hB, hC⟩))
  go_ret
  exact ⟨rfl, hB, hC⟩
theorem br_double_full (col : Nat → Nat) (i : Nat) (w : World) (b : Nat) (L : List ByteArray) (most lost : Int) (h : Bag 34 9 1 encS col i w b L most lost) (j : Nat) (hj : j < L.length) (hn : most ≤ (L.length : Int)) :
    Calls Try.prog 48 #[.pointer (some ⟨b, 0, none⟩), .int .i64 j] w fun e w' => e = .returned (.bool false) ∧ Bag 34 9 1 encS (paint col w i) i w' b L most (wrap64 (lost + 1)) ∧ Ch col i w w' := by
  have hat := br_at_ok col i w b L most lost h j hj
  have hput := br_put_full col i w b L most lost L[j] h hn
  clear hn
  go_enter Try.func48, Try.ntmps48
  go_wp2_with (first | (go_at_call 49; refine hat.mono ?_; rintro e w' ⟨rfl, rfl⟩) | (go_at_call 46; refine hput.mono ?_; rintro e w' ⟨rfl, hB, hC⟩))
  go_ret
  exact ⟨rfl, hB, hC⟩
theorem br_double_no (col : Nat → Nat) (i : Nat) (w : World) (b : Nat) (L : List ByteArray) (most lost : Int) (h : Bag 34 9 1 encS col i w b L most lost) (I : Int) (hI : I < 0 ∨ (L.length : Int) ≤ I) :
    Calls Try.prog 48 #[.pointer (some ⟨b, 0, none⟩), .int .i64 I] w fun e w' => e = .returned (.bool false) ∧ w = w' := by
  have hat := br_at_no col i w b L most lost h I hI
  clear hI
  go_enter Try.func48, Try.ntmps48
  go_wp2_with (go_at_call 49; refine hat.mono ?_; rintro e w' ⟨rfl, rfl⟩)
  go_ret
  exact ⟨rfl, rfl⟩

theorem br_take_any (col : Nat → Nat) (i : Nat) (w : World) (b : Nat) (L : List ByteArray) (most lost : Int) (h : Bag 34 9 1 encS col i w b L most lost) (I : Int) (J : Nat) (hJ : ∀ k, k < L.length → ((k : Int) = I ↔ k = J)) (X : Value) (B : Bool)
    (hat : Calls Try.prog 49 #[.pointer (some ⟨b, 0, none⟩), .int .i64 I] w fun e w' => e = .returned (.tuple #[X, .bool B]) ∧ w = w') :
    Calls Try.prog 47 #[.pointer (some ⟨b, 0, none⟩), .int .i64 I] w fun e w' => e = .returned (.tuple #[X, .bool B]) ∧ Bag 34 9 1 encS (paint col w i) i w' b (L.eraseIdx J) most lost ∧ Ch col i w w' := by
  obtain ⟨i0, hi, hz0, hz1, hz2⟩ := info_parts Try.info9
  obtain ⟨⟨v, hb, hr⟩, h1, h2, h3⟩ := h
  have hform := hr.form
  have hcb := hp_cell hb.hp
  obtain ⟨p, c, rfl⟩ := hform
  have HJ := Lib.hid hJ; clear hJ
  go_enter Try.func47, Try.ntmps47
  go_wp2_with (go_at_call 49; refine hat.mono ?_; rintro e w' ⟨rfl, rfl⟩)
  clear hcb
  go_loopw [8, 9] (fun t8 t9 wr => ∃ k m : Nat, ∃ p' c', k ≤ L.length ∧ t9 = .int .i64 k ∧ t8 = .slice p' m c' ∧ m = ((L.take k).eraseIdx J).length ∧ Row (paint zc w 1) 1 wr 9 1 (.slice p' m c') m (((L.take k).eraseIdx J).flatMap encS) ∧ Below w.heap.size w wr) (fun _ t9 _ => L.length + 1 - (intOf t9).toNat)
  case atStart => exact ⟨0, 0, none, 0, Nat.zero_le _, rfl, rfl, by simp, by simpa using Row.nil', Below.refl _ _⟩
  case round =>
    obtain ⟨k, m, p', c', hk, rfl, rfl, hm, hrow, hbel⟩ := hrel
    have hbr := hp_below hbel hb.hp
    have cb := hp_cell hbr
    have fb := hp_free hbr
    have hm1 : m ≤ 4096 := by rw [hm]; have := List.length_eraseIdx_le (L.take k) J; simp at this; omega
    have HM := Lib.hid hm; clear hm
    by_cases hlt : k < L.length
    · obtain ⟨g, c2, cur, hv, hg, hnc, hcm, hcs, htk, hgc⟩ := hr.pos (by omega)
      simp only [Value.slice.injEq] at hv
      obtain ⟨rfl, _, rfl⟩ := hv
      have hgr := hp_below hbel hg
      have hsrc := encS_ok.src L k hgr htk
      have hcell : wr.cell? ⟨g, k, none⟩ = some (.string L[k]) := by have := hsrc 0 (.string L[k]) (by rw [List.drop_eq_getElem_cons hlt]; rfl); simpa [Addr.add] using this
      clear hsrc
      by_cases hkj : (k : Int) = I
      · have hkJ := ((HJ.out) k hlt).1 hkj
        have hne : ((k : Int) != I) = false := by simp [hkj]
        have hne' : ((k : Int) == I) = true := by simp [hkj]
        clear hkj
        have HK := Lib.hid hkJ; clear hkJ
        go_wp2
        go_roundw
        case rel =>
          have e := er_eq L k J hlt HK.out
          refine ⟨k + 1, m, p', c', by omega, by go_num, rfl, ?_, ?_, hbel⟩
          · rw [e]; exact HM.out
          · rw [e]; exact hrow
        case measure => simp [intOf]; omega
      · have hkJ : k ≠ J := fun e => hkj (((HJ.out) k hlt).2 e)
        have hne : ((k : Int) != I) = true := by simp [hkj]
        have hne' : ((k : Int) == I) = false := by simp [hkj]
        clear hkj
        have e := Lib.hid (er_ne L k J hlt hkJ)
        clear hkJ
        have HB := below_alloc (Below.refl wr.heap.size wr) (.cells #[.string L[k]] 9)
        have hrow' := hrow.below HB
        rw [paint_paint hbel.size] at hrow'
        go_wp2_with (at_builtin; refine wpList_append_col rfl (.tmp 28) (.tmp 36) 32 rfl 9 i0 (.string ⟨#[]⟩) 1 16 Try.underlying32 hi hz0 hz1 hz2 rfl (by decide) _ m (((L.take k).eraseIdx J).flatMap encS) rfl hrow' ⟨wr.heap.size, 0, none⟩ 1 1 (encS (L[k])) rfl rfl (one_cell wr _ _) ?c2 ?c3 ?c4 ?k)
        case c2 => exact encS_ok.one _
        case c3 => unfold maxLen; omega
        case c4 => omega
        case k =>
          intro p2 c2 w1 hr1 hC hg1
          rw [paint_paint (Nat.le_trans hbel.size HB.size)] at hr1
          have hbel1 : Below w.heap.size w w1 := (below_call hbel HB).grown hg1 (Nat.le_trans hbel.size HB.size) (fun q hq => hrow.new hq)
          clear cb fb
          go_wp2
          go_roundw
          case rel =>
            refine ⟨k + 1, m + 1, p2, c2, by omega, by go_num, rfl, ?_, ?_, hbel1⟩
            · rw [e.out, List.length_append, ← HM.out]; rfl
            · rw [e.out, List.flatMap_append]; simpa using hr1
          case measure => simp [intOf]; omega
    · have hkn : k = L.length := by omega
      go_wp2
      go_ret2
      have hL : L.take k = L := List.take_of_length_le (by omega)
      have hm2 := HM.out
      rw [hL] at hm2 hrow
      have hC : Ch col i w wr := Ch.of_below hbel
      have hcol : ∀ q, (Value.slice p' m c').ownBlock = some q → paint col w i q = i := fun q hq => paint_new (hrow.new hq)
      have hpb : paint col w i b = i := paint_of hb.col
      refine ⟨rfl, ⟨⟨_, ⟨hp_set hbr _, hpb⟩, ?_⟩, h1, h2, by have := List.length_eraseIdx_le L J; omega⟩, hC.setCell hpb _⟩
      rw [← hm2]
      exact (hrow.recol hcol).set ((hrow.ne hbr (by decide))) _
theorem br_take_ok (col : Nat → Nat) (i : Nat) (w : World) (b : Nat) (L : List ByteArray) (most lost : Int) (h : Bag 34 9 1 encS col i w b L most lost) (j : Nat) (hj : j < L.length) :
    Calls Try.prog 47 #[.pointer (some ⟨b, 0, none⟩), .int .i64 j] w fun e w' => e = .returned (.tuple #[.string L[j], .bool true]) ∧ Bag 34 9 1 encS (paint col w i) i w' b (L.eraseIdx j) most lost ∧ Ch col i w w' :=
  br_take_any col i w b L most lost h j j (fun k _ => by omega) _ _ (br_at_ok col i w b L most lost h j hj)
theorem br_take (col : Nat → Nat) (i : Nat) (w : World) (b : Nat) (L : List ByteArray) (most lost : Int) (h : Bag 34 9 1 encS col i w b L most lost) (I : Int) :
    Calls Try.prog 47 #[.pointer (some ⟨b, 0, none⟩), .int .i64 I] w fun e w' => e = .returned (.tuple #[.string (getD L I ⟨#[]⟩), .bool (inB L I)]) ∧ Bag 34 9 1 encS (paint col w i) i w' b (remL L I) most lost ∧ Ch col i w w' := by
  rcases inB_cases L I with ⟨j, rfl, hj, hb⟩ | ⟨hI, hb⟩
  · have := br_take_ok col i w b L most lost h j hj
    simpa [hb, getD, List.getD, hj, remL] using this
  · have := br_take_any col i w b L most lost h I L.length (fun k hk => by omega) _ _ (br_at_no col i w b L most lost h I hI)
    simpa [hb, getD, remL, List.eraseIdx_of_length_le] using this

theorem br_put (col : Nat → Nat) (i : Nat) (w : World) (b : Nat) (L : List ByteArray) (most lost : Int) (m : ByteArray) (h : Bag 34 9 1 encS col i w b L most lost) :
    Calls Try.prog 46 #[.pointer (some ⟨b, 0, none⟩), .string m] w fun e w' => e = .returned (.bool (putB L most)) ∧ Bag 34 9 1 encS (paint col w i) i w' b (putL L most (m)) most (putN L most lost) ∧ Ch col i w w' := by
  cases hb : putB L most with
  | true => simpa only [putL, putN, hb, if_true] using br_put_room col i w b L most lost m h (by simpa [putB] using hb)
  | false => simpa only [putL, putN, hb, Bool.false_eq_true, if_false] using br_put_full col i w b L most lost m h (by simpa [putB] using hb)
theorem br_at (col : Nat → Nat) (i : Nat) (w : World) (b : Nat) (L : List ByteArray) (most lost : Int) (h : Bag 34 9 1 encS col i w b L most lost) (I : Int) :
    Calls Try.prog 49 #[.pointer (some ⟨b, 0, none⟩), .int .i64 I] w fun e w' => e = .returned (.tuple #[.string (getD L I ⟨#[]⟩), .bool (inB L I)]) ∧ w = w' := by
  rcases inB_cases L I with ⟨j, rfl, hj, hb⟩ | ⟨hI, hb⟩
  · have := br_at_ok col i w b L most lost h j hj
    simpa [hb, getD, List.getD, hj] using this
  · have := br_at_no col i w b L most lost h I hI
    simpa [hb, getD] using this
theorem br_double (col : Nat → Nat) (i : Nat) (w : World) (b : Nat) (L : List ByteArray) (most lost : Int) (h : Bag 34 9 1 encS col i w b L most lost) (I : Int) :
    Calls Try.prog 48 #[.pointer (some ⟨b, 0, none⟩), .int .i64 I] w fun e w' => e = .returned (.bool (inB L I && putB L most)) ∧
      Bag 34 9 1 encS (paint col w i) i w' b (if inB L I then putL L most (getD L I ⟨#[]⟩) else L) most (if inB L I then putN L most lost else lost) ∧ Ch col i w w' := by
  rcases inB_cases L I with ⟨j, rfl, hj, hb⟩ | ⟨hI, hb⟩
  · cases hp : putB L most with
    | true =>
      have := br_double_room col i w b L most lost h j hj (by simpa [putB] using hp)
      simpa [hb, hp, getD, List.getD, hj, putL, putN] using this
    | false =>
      have := br_double_full col i w b L most lost h j hj (by simpa [putB] using hp)
      simpa [hb, hp, getD, List.getD, hj, putL, putN] using this
  · have := br_double_no col i w b L most lost h I hI
    refine this.mono ?_
    rintro e w' ⟨rfl, rfl⟩
    exact ⟨by simp [hb], by simpa [hb] using h.paint (Below.refl _ _), Ch.refl⟩

end Go.Proofs.Ytgacbfbjikjanaa
