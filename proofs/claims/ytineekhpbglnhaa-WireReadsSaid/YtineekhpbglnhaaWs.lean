/- What the reference writes; WireWrites. -/
import Derived.Test.YtineekhpbglnhaaWRd
import Derived.Test.YtineekhpbglnhaaWq
import Derived.Lib.AppendStr
import Derived.WalkKit
import Derived.WalkLawsBesides
import Derived.WalkSpells
import Derived.Below
import Derived.Deep.RegionHeld3
import Derived.Deep.QuietTactic
import Derived.BigQuiet
import Derived.Deep.DeepCutAuto
import Derived.Deep.DeepMust
import Derived.KernelRfl
import Derived.Lib.Hide
import Derived.Outline
import Derived.RegionTactic
import Derived.StillTailTactics
import Derived.Laws.IdiomStrings
namespace Go.Proofs.Ytineekhpbglnhaa
open Go.RowKit Go.Cl
set_option maxRecDepth 100000
set_option linter.unusedVariables false
set_option linter.unusedSimpArgs false

open Go.Wr Go.Rdr
theorem ref_bool (w : World) (x : Bool) : Calls Try.prog 33 #[.bool x] w fun e w' => e = .returned (.string ⟨(bol x).toArray⟩) ∧ w = w' := by
  cases x
  all_goals
    go_enter Try.func33, Try.ntmps33
    go_wp2
    go_ret
    exact ⟨rfl, rfl⟩
theorem ba_append (l : List UInt8) (s : ByteArray) : (⟨l.toArray⟩ : ByteArray) ++ s = ⟨(l ++ s.data.toList).toArray⟩ := by
  apply ByteArray.ext
  apply Array.toList_inj.1
  simp [ByteArray.data_append]
theorem ref_text (w : World) (s : ByteArray) (hs : s.size ≤ maxLen) (hs2 : (txt s.data.toList).length ≤ 140737488355328) : Calls Try.prog 34 #[.string s] w fun e w' => e = .returned (.string ⟨(txt s.data.toList).toArray⟩) ∧ Below w.heap.size w w' := by
  have hn := ref_num w s.size (by omega) (by unfold maxLen at hs; omega)
  have hl : s.data.toList.length = s.size := by simp
  unfold txt at hs2 ⊢
  rw [List.length_append] at hs2
  rw [hl] at hs2 ⊢
  have hs3 : ¬ 9223372036854775807 < (num (zz s.size)).length + s.size := by omega
  have HN := Lib.hid hn; clear hn hl hs hs2
  go_enter Try.func34, Try.ntmps34
  go_wp2_with (go_at_call 32; refine HN.out.mono ?_; rintro e w1 ⟨rfl, hb⟩)
  go_ret
  exact ⟨by rw [ba_append]; rfl, hb⟩
theorem _root_.Go.Rdr.SlIs.mono {α : Type} {w w1 : World} {base s : Nat} {R : α → List Value → Prop} {v : Value} {L : List α} (h : SlIs w base s R v L) (hb : Below w.heap.size w w1) : SlIs w1 base s R v L := by
  obtain ⟨p, c, rfl, hc, hm, hx⟩ := h
  refine ⟨p, c, rfl, hc, hm, fun i hi => ?_⟩
  obtain ⟨b, o, cs, rfl, h1, h2, h3, h4, h5⟩ := hx i hi
  exact ⟨b, o, cs, rfl, h1, Nat.lt_of_lt_of_le h2 hb.size, h3, h4, fun j hj => (hb.cell (p := ⟨b, o + i * s + j, none⟩) h2).trans (h5 j hj)⟩
abbrev OpT := Int × Int × ByteArray × Int
def encT (o : OpT) : List UInt8 := enc (thing o.1 o.2.1 o.2.2.1 o.2.2.2)
def encs (l : List OpT) : List UInt8 := l.flatMap encT
theorem encs_snoc (l : List OpT) (k : Nat) (h : k < l.length) : encs (l.take (k + 1)) = encs (l.take k) ++ encT l[k] := by
  unfold encs
  rw [List.take_succ_eq_append_getElem h, List.flatMap_append]; simp
theorem encs_le (l : List OpT) (k : Nat) : (encs (l.take k)).length ≤ (encs l).length := by
  have h : encs l = encs (l.take k) ++ encs (l.drop k) := by unfold encs; rw [← List.flatMap_append, List.take_append_drop]
  rw [h, List.length_append]; omega
/-- Bytes that are being laid in a row that is new since w. -/
def Laid (w : World) (M : List UInt8) (v : Value) (wr : World) : Prop := wr.ownsRow w.heap.size 5 1 v M.length (M.flatMap encB) ∧ Below w.heap.size w wr
theorem Laid.form {w wr : World} {M : List UInt8} {v : Value} (h : Laid w M v wr) : ∃ p c, v = .slice p M.length c := by
  rcases h.1.2 with ⟨rfl, h0⟩ | ⟨g, cap, cur, rfl, _⟩
  · exact ⟨none, 0, by rw [h0]⟩
  · exact ⟨_, _, rfl⟩
theorem Laid.below {w wr w1 : World} {M : List UInt8} {v : Value} (h : Laid w M v wr) (hb : Below wr.heap.size wr w1) : Laid w M v w1 := by
  refine ⟨⟨h.1.1, ?_⟩, below_call h.2 hb⟩
  rcases h.1.2 with hn | ⟨g, cap, cur, rfl, hg0, hgg, rest⟩
  · exact .inl hn
  · exact .inr ⟨g, cap, cur, rfl, hg0, (hb.block g (Array.getElem?_eq_some_iff.1 hgg).1).trans hgg, rest⟩
theorem Laid.row {w wr : World} {M : List UInt8} {v : Value} (h : Laid w M v wr) : Row (fun _ => 1) 1 wr 5 1 v M.length (M.flatMap encB) := by
  refine ⟨⟨h.1.1, ?_⟩, fun _ _ => rfl⟩
  rcases h.1.2 with hn | ⟨g, cap, cur, rfl, hg0, rest⟩
  · exact .inl hn
  · exact .inr ⟨g, cap, cur, rfl, Nat.zero_le _, rest⟩
theorem below_grown {w w1 w2 : World} (h : Below w.heap.size w w1) {row : Option Nat} (hg : w1.grownBy w2 row) (hr : ∀ k, row = some k → w.heap.size ≤ k) : Below w.heap.size w w2 :=
  ⟨hg.os.trans h.os, hg.tape.trans h.tape, hg.output.trans h.output, Nat.le_trans h.size hg.size, fun k hk =>
    (hg.block k (Nat.lt_of_lt_of_le hk h.size) (fun e => by have := hr k e.symm; omega)).trans (h.block k hk)⟩

def WrInv (w : World) (l : List OpT) (v t : Value) (wr : World) : Prop := ∃ k : Nat, t = .int .i64 k ∧ k ≤ l.length ∧ Laid w (encs (l.take k)) v wr
theorem flat_str (X : List UInt8) : X.flatMap encB = X.map fun b => Value.int .u8 b.toNat := by
  induction X with
  | nil => rfl
  | cons x l ih => rw [List.flatMap_cons, ih]; rfl
theorem laid_str {w wr w1 : World} {M : List UInt8} {v v' : Value} {X : List UInt8} (h : Laid w M v wr) (ho : w1.ownsRow w.heap.size 5 1 v' (M.length + (⟨X.toArray⟩ : ByteArray).size) (M.flatMap encB ++ Lib.strCells ⟨X.toArray⟩)) (hg : wr.grownBy w1 v.ownBlock) : Laid w (M ++ X) v' w1 := by
  refine ⟨?_, below_grown h.2 hg (fun k hk => (h.1.lt k hk).1)⟩
  have e1 : (M ++ X).length = M.length + (⟨X.toArray⟩ : ByteArray).size := by rw [List.length_append]; rfl
  have e2 : (M ++ X).flatMap encB = M.flatMap encB ++ Lib.strCells ⟨X.toArray⟩ := by
    rw [List.flatMap_append]
    congr 1
    exact flat_str X
  rw [e1, e2]; exact ho
set_option maxHeartbeats 1000000 in
theorem written_ok (w : World) (base : Nat) (v : Value) (l : List OpT) (hs : SlIs w base 4 OpR v l) (hle : (encs l).length ≤ 140737488355328) :
    Calls Try.prog 17 #[v] w fun e w' => e = .returned (.string ⟨(encs l).toArray⟩) ∧ Below w.heap.size w w' := by
  obtain ⟨i0, hi, hz0, hz1, hz2⟩ := info_parts Try.info5
  obtain ⟨p, c, rfl, hlc, hcm⟩ := hs.form
  unfold maxLen at hcm
  have HLE := Lib.hid hle; clear hle
  go_enter Try.func17, Try.ntmps17
  go_wp2
  go_loopw [3, 4] (WrInv w l) (fun _ t _ => l.length + 1 - (intOf t).toNat)
  case atStart => exact ⟨0, rfl, Nat.zero_le _, World.ownsRow_nil w _ 5 1, Below.refl _ _⟩
  case round =>
    obtain ⟨k, rfl, hk, hL⟩ := hrel
    obtain ⟨pv, cv, rfl⟩ := hL.form
    by_cases hlt : k < l.length
    · obtain ⟨bs, os, c', cs, hv, _, _, hcl, ⟨hcs, k0, k1, n1, n2, sz⟩, hbs, hat⟩ := hs.at hL.2 k hlt
      simp only [Value.slice.injEq] at hv
      obtain ⟨rfl, _, rfl⟩ := hv
      subst hcs
      have q0 := hat 0 (by omega)
      have q1 := hat 1 (by omega)
      have q2 := hat 2 (by omega)
      simp only [List.getElem?_cons_zero, List.getElem?_cons_succ, Nat.add_zero] at q0 q1 q2
      have hes := encs_snoc l k hlt
      have hel := encs_le l (k + 1)
      rw [hes, List.length_append] at hel
      have hel2 := HLE.out
      generalize l[k] = X at *
      obtain ⟨K, I, S, M⟩ := X
      simp only at q0 q1 q2 k0 k1 n1 n2 sz
      have hk4 : K % 4 = 0 ∨ K % 4 = 1 ∨ K % 4 = 2 ∨ K % 4 = 3 := by omega
      have N1 := Lib.hid n1; have N2 := Lib.hid n2; have SZ := Lib.hid sz
      clear n1 n2 sz hat hcl
      have HES := Lib.hid hes; clear hes
      rcases hk4 with h4 | h4 | h4 | h4
      · have e : encT (K, I, S, M) = num (zz I) := enc_0 (o := thing K I S M) h4
        rw [e] at HES hel
        clear e
        have HEL := Lib.hid (Nat.le_trans hel hel2); clear hel hel2
        generalize hM0 : encs (l.take k) = M0 at *
        clear hM0
        go_wp2_with (first | (go_at_call 32; refine (ref_num _ I N1.out N2.out).mono ?_; rintro e w1 ⟨rfl, hb⟩; have hL1 := hL.below hb) | (at_builtin; refine Lib.wpList_append_own_string _ rfl (.tmp 19) (.tmp 25) 26 9 rfl w.heap.size 5 i0 Try.underlying26 Try.underlying9 hi hz0 hz1 hz2 _ M0.length _ rfl hL1.1 ⟨(num (zz I)).toArray⟩ rfl ?a30 ?a40 hL1.2.size ?k0))
        case a30 => have := HEL.out; show M0.length + (num (zz I)).toArray.size ≤ _; rw [List.size_toArray]; unfold maxLen; omega
        case a40 => have := HEL.out; show M0.length + (num (zz I)).toArray.size ≤ _; rw [List.size_toArray]; omega
        case k0 =>
          intro v' w2 hown hg _
          have hL2 := laid_str (X := num (zz I)) hL1 hown hg
          rw [← HES.out] at hL2
          clear hown hg hL1 hL q0 q1 q2
          obtain ⟨p2, c2, rfl⟩ := hL2.form
          go_wp2
          go_roundw
          case rel => exact ⟨k + 1, by go_num, by omega, hL2⟩
          case measure => simp [intOf]; omega
      · have e : encT (K, I, S, M) = bol (bit I) := enc_1 (o := thing K I S M) h4
        rw [e] at HES hel
        clear e
        have HEL := Lib.hid (Nat.le_trans hel hel2); clear hel hel2
        generalize hM0 : encs (l.take k) = M0 at *
        clear hM0
        have ha := and_i1 I
        go_wp2_with (first | (go_at_call 33; refine (ref_bool _ _).mono ?_; rintro e w1 ⟨rfl, rfl⟩; have hL1 := hL.below (Below.refl _ _)) | (at_builtin; refine Lib.wpList_append_own_string _ rfl (.tmp 29) (.tmp 37) 26 9 rfl w.heap.size 5 i0 Try.underlying26 Try.underlying9 hi hz0 hz1 hz2 _ M0.length _ rfl hL1.1 ⟨(bol (bit I)).toArray⟩ rfl ?a31 ?a41 hL1.2.size ?k1))
        case a31 => have := HEL.out; show M0.length + (bol (bit I)).toArray.size ≤ _; rw [List.size_toArray]; unfold maxLen; omega
        case a41 => have := HEL.out; show M0.length + (bol (bit I)).toArray.size ≤ _; rw [List.size_toArray]; omega
        case k1 =>
          intro v' w2 hown hg _
          have hL2 := laid_str (X := bol (bit I)) hL1 hown hg
          rw [← HES.out] at hL2
          clear hown hg hL1 hL q0 q1 q2
          obtain ⟨p2, c2, rfl⟩ := hL2.form
          go_wp2
          go_roundw
          case rel => exact ⟨k + 1, by go_num, by omega, hL2⟩
          case measure => simp [intOf]; omega
      · have e : encT (K, I, S, M) = txt S.data.toList := enc_2 (o := thing K I S M) h4
        rw [e] at HES hel
        clear e
        have HEL := Lib.hid (Nat.le_trans hel hel2); clear hel hel2
        generalize hM0 : encs (l.take k) = M0 at *
        clear hM0
        have HX : (txt S.data.toList).length ≤ 140737488355328 := by have := HEL.out; omega
        have HX2 := Lib.hid HX; clear HX
        go_wp2_with (first | (go_at_call 34; refine (ref_text _ S SZ.out HX2.out).mono ?_; rintro e w1 ⟨rfl, hb⟩; have hL1 := hL.below hb) | (at_builtin; refine Lib.wpList_append_own_string _ rfl (.tmp 41) (.tmp 47) 26 9 rfl w.heap.size 5 i0 Try.underlying26 Try.underlying9 hi hz0 hz1 hz2 _ M0.length _ rfl hL1.1 ⟨(txt S.data.toList).toArray⟩ rfl ?a32 ?a42 hL1.2.size ?k2))
        case a32 => have := HEL.out; show M0.length + (txt S.data.toList).toArray.size ≤ _; rw [List.size_toArray]; unfold maxLen; omega
        case a42 => have := HEL.out; show M0.length + (txt S.data.toList).toArray.size ≤ _; rw [List.size_toArray]; omega
        case k2 =>
          intro v' w2 hown hg _
          have hL2 := laid_str (X := txt S.data.toList) hL1 hown hg
          rw [← HES.out] at hL2
          clear hown hg hL1 hL q0 q1 q2
          obtain ⟨p2, c2, rfl⟩ := hL2.form
          go_wp2
          go_roundw
          case rel => exact ⟨k + 1, by go_num, by omega, hL2⟩
          case measure => simp [intOf]; omega
      · have e : encT (K, I, S, M) = [] := enc_3 (o := thing K I S M) h4
        rw [e, List.append_nil] at HES
        clear hel hel2
        go_wp2
        go_roundw
        case rel => exact ⟨k + 1, by go_num, by omega, by rw [HES.out]; exact hL⟩
        case measure => simp [intOf]; omega
    · have hkn : k = l.length := by omega
      clear hlt hk
      subst hkn
      simp only [List.take_length] at hL ⊢
      have hcv := conv_row hL.row wr (Below.refl _ _)
      go_wp2
      go_ret
      exact ⟨rfl, hL.2⟩
end Go.Proofs.Ytineekhpbglnhaa
