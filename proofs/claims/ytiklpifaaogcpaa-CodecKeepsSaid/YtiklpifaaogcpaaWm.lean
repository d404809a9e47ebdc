/- Texts laid together: Wm Wq Ws. -/
import Derived.Test.YtiklpifaaogcpaaWg
import Derived.Test.YtiklpifaaogcpaaRdr
import Derived.WalkKit
import Derived.WalkLawsBesides
import Derived.WalkSpells
import Derived.Below
import Derived.Deep.RegionHeld3
import Derived.Deep.QuietTactic
import Derived.BigQuiet
import Derived.Deep.DeepCutAuto
import Derived.Deep.DeepMust
import Derived.KernelRfl
import Derived.Lib.Hide
import Derived.Outline
import Derived.RegionTactic
import Derived.StillTailTactics
import Derived.Laws.IdiomStrings
import Derived.Lib.AppendStr
namespace Go.Proofs.Ytiklpifaaogcpaa
open Go.RowKit Go.Cl
set_option maxRecDepth 100000
set_option linter.unusedVariables false
set_option linter.unusedSimpArgs false

open Go.Wr
theorem num_len_le : ∀ (j u : Nat), 0 < j → u < 128 ^ j → (num u).length ≤ j := by
  intro j
  induction j with
  | zero => intro u h; omega
  | succ j ih =>
    intro u _ hu
    by_cases h : u < 128
    · rw [num_lo h]; simp
    · rw [num_hi (by omega)]
      have hj : 0 < j := by
        rcases Nat.eq_zero_or_pos j with e | e
        · subst e; simp at hu; omega
        · exact e
      have := ih (u / 128) hj (by rw [Nat.pow_succ] at hu; exact Nat.div_lt_of_lt_mul (by rw [Nat.mul_comm]; exact hu))
      simp; omega
theorem num_len_10 {u : Nat} (h : u < 18446744073709551616) : (num u).length ≤ 10 := num_len_le 10 u (by decide) (Nat.lt_of_lt_of_le h (by decide))
end Go.Proofs.Ytiklpifaaogcpaa

namespace Go.Proofs.Ytiklpifaaogcpaa
open Go.RowKit Go.Cl
set_option maxRecDepth 100000
set_option linter.unusedVariables false
set_option linter.unusedSimpArgs false

open Go.Wr
theorem rz_pos {n : Int} (h0 : 0 ≤ n) (h : n ≤ 9223372036854775807) : IntKind.u64.wrap (2 * IntKind.u64.wrap n) = (zz n : Int) := by
  rw [w_u64, w_u64, zz, if_pos h0]
  omega
theorem rz_neg {n : Int} (h0 : n < 0) (h : -9223372036854775808 ≤ n) : IntKind.u64.wrap (IntKind.u64.wrap (2 * IntKind.u64.wrap (wrap64 (-wrap64 (n + 1)))) + 1) = (zz n : Int) := by
  unfold wrap64
  rw [w_u64, w_u64, w_u64, zz, if_neg (by omega)]
  omega
/-- Bytes that are being laid in a slice of one's own. -/
def Out (w : World) (L : List UInt8) (v : Value) (wr : World) : Prop := ∃ c, Row c 1 wr 5 1 v L.length (L.flatMap encB) ∧ Mv [1] zc w c wr
theorem zc1 (w : World) : ∀ k, k < w.heap.size → zc k ∉ [1] := fun k _ => by simp [zc]
def RNumInv (w : World) (Z : Nat) (u v : Value) (wr : World) : Prop :=
  ∃ (U : Nat) (M : List UInt8), u = .int .u64 U ∧ U ≤ Z ∧ M ++ num U = num Z ∧ Out w M v wr
theorem wp_conv_row {ops : Array Oper} {rest : List Oper} {o : Oper} {a : Act} {w : World} {Q : Exit → Act → World → Prop} (hgd : o.guard = none) (x : Operand) (ho : o.op = .convert 53 9 x) {col : Nat → Nat} {i : Nat} {L : List UInt8} {v : Value} (hv : a.eval x = v)
    (hr : Row col i w 5 1 v L.length (L.flatMap encB)) (h : wpList Try.prog ops Q rest (a.put o.dst (.string ⟨L.toArray⟩)) w) : wpList Try.prog ops Q (o :: rest) a w := by
  refine wpList_plain hgd fun K hK => ?_
  have hc := conv_row hr w (Below.refl _ _)
  unfold Oper.wp execOp
  simp only [ho, Sem.run_bind, hv, hc, Result.andThen_ok, Sem.run_pure]
  exact hK _ _ h
set_option maxHeartbeats 1000000 in
theorem ref_num (w : World) (n : Int) (n1 : -9223372036854775808 ≤ n) (n2 : n ≤ 9223372036854775807) :
    Calls Try.prog 23 #[.int .i64 n] w fun e w' => e = .returned (.string ⟨(num (zz n)).toArray⟩) ∧ Below w.heap.size w w' := by
  obtain ⟨i0, hi, hz0, hz1, hz2⟩ := info_parts Try.info5
  have hZ := zz_lt n1 n2
  have HL := Lib.hid (num_len_10 hZ)
  have HP := Lib.hid (fun h0 : ¬ n < 0 => rz_pos (by omega) n2)
  have HN := Lib.hid (fun h0 : n < 0 => rz_neg h0 n1)
  have HZ := Lib.hid hZ
  clear n1 n2 hZ
  generalize zz n = Z at *
  by_cases hn : n < 0
  all_goals
    go_enter Try.func23, Try.ntmps23
    go_wp2
    first | rw [HN.out hn] | rw [HP.out hn]
    clear HN HP
    go_loopw [3, 4] (RNumInv w Z) (fun u _ _ => (intOf u).toNat)
    case atStart => exact ⟨Z, [], rfl, Nat.le_refl _, rfl, zc, Row.nil', Mv.refl⟩
    case round =>
      obtain ⟨U, M, rfl, hU, hM, c, hr, hm⟩ := hrel
      obtain ⟨p, cp, rfl⟩ := hr.form
      by_cases hlt : U < 128
      · have hY := byt_nat (n := U) (by omega)
        have hLe := HL.out
        rw [← hM, num_lo hlt, List.length_append] at hLe
        simp only [List.length_cons, List.length_nil] at hLe
        rw [num_lo hlt] at hM
        have HM := Lib.hid hM; clear hM
        have HLe := Lib.hid hLe; clear hLe
        have hu8 : IntKind.u8.wrap (U : Int) = U := by rw [w_u8]; omega
        have hbA := below_alloc (Below.refl wr.heap.size wr) (.cells #[.int .u8 U] 5)
        have hrA := hr.kept (Mv.of_below (S := []) (col := c) hbA) (by simp)
        go_wp2_with (at_builtin; refine wpList_append_col (i := 1) rfl (.tmp 27) (.tmp 30) 53 rfl 5 i0 (.int .u8 0) 1 1 Try.underlying53 hi hz0 hz1 hz2 rfl (by decide) _ M.length (M.flatMap encB) rfl hrA ⟨wr.heap.size, 0, none⟩ 1 1 ([byt U].flatMap encB) rfl (encB_ok.length _) (cell_one wr U (byt U) hY) (encB_ok.ones _) ?c3 ?c4 ?k)
        case c3 => have := HLe.out; unfold maxLen; omega
        case c4 => have := HLe.out; omega
        case k =>
          intro p' c' w1 hr1 hC1 hg1
          have hrr : Row (paint c (wr.alloc (.cells #[.int .u8 U] 5)) 1) 1 w1 5 1 (.slice p' (M.length + 1) c') (M ++ [byt U]).length ((M ++ [byt U]).flatMap encB) := by
            rw [List.flatMap_append, List.length_append]; exact hr1
          rw [HM.out] at hrr
          have hcv := conv_row hrr w1 (Below.refl _ _)
          have hb := ((hm.after_below hbA).trans hC1.mv).toBelow (zc1 w)
          clear hr1 hg1 hrA hr hbA hC1 hrr
          go_wp2
          go_ret
          exact ⟨rfl, hb⟩
      · have hY := byt_nat (n := 128 + U % 128) (by omega)
        have hLe := HL.out
        rw [← hM, num_hi (by omega), List.length_append, List.length_cons] at hLe
        rw [num_hi (by omega)] at hM
        have HM := Lib.hid hM; clear hM
        have HLe := Lib.hid hLe; clear hLe
        have hu8 : IntKind.u8.wrap (128 + (U : Int) % 128) = ((128 + U % 128 : Nat) : Int) := by rw [w_u8]; omega
        have hbA := below_alloc (Below.refl wr.heap.size wr) (.cells #[.int .u8 ((128 + U % 128 : Nat) : Int)] 5)
        have hrA := hr.kept (Mv.of_below (S := []) (col := c) hbA) (by simp)
        have hcell := cell_one wr (128 + U % 128) (byt (128 + U % 128)) hY
        generalize hG : ((128 + U % 128 : Nat) : Int) = G at hu8 hbA hrA hcell
        clear hG
        go_wp2_with (at_builtin; refine wpList_append_col (i := 1) rfl (.tmp 18) (.tmp 23) 53 rfl 5 i0 (.int .u8 0) 1 1 Try.underlying53 hi hz0 hz1 hz2 rfl (by decide) _ M.length (M.flatMap encB) rfl hrA ⟨wr.heap.size, 0, none⟩ 1 1 ([byt (128 + U % 128)].flatMap encB) rfl (encB_ok.length _) hcell (encB_ok.ones _) ?d3 ?d4 ?k2)
        case d3 => have := HLe.out; unfold maxLen; omega
        case d4 => have := HLe.out; omega
        case k2 =>
          intro p' c' w1 hr1 hC1 hg1
          have hrr : Row (paint c (wr.alloc (.cells #[.int .u8 G] 5)) 1) 1 w1 5 1 (.slice p' (M.length + 1) c') (M ++ [byt (128 + U % 128)]).length ((M ++ [byt (128 + U % 128)]).flatMap encB) := by
            rw [List.flatMap_append, List.length_append]; exact hr1
          have hmm := (hm.after_below hbA).trans hC1.mv
          have hlen : (M ++ [byt (128 + U % 128)]).length = M.length + 1 := by simp
          clear hr1 hg1 hrA hr hbA hC1 hu8 hcell hY hlen
          have hU6 : U < 18446744073709551616 := by have := HZ.out; omega
          have h8 : IntKind.u64.wrap ((U : Int) / 128) = ((U / 128 : Nat) : Int) := by rw [w_u64]; omega
          clear hU6
          go_wp2
          go_roundw
          case rel => exact ⟨U / 128, M ++ [byt (128 + U % 128)], by go_num, by omega, by rw [List.append_assoc]; exact HM.out, _, hrr, hmm⟩
          case measure => simp [intOf]; omega
end Go.Proofs.Ytiklpifaaogcpaa

namespace Go.Proofs.Ytiklpifaaogcpaa
open Go.RowKit Go.Cl
set_option maxRecDepth 100000
set_option linter.unusedVariables false
set_option linter.unusedSimpArgs false

open Go.Wr Go.Rdr
theorem ref_bool (w : World) (x : Bool) : Calls Try.prog 27 #[.bool x] w fun e w' => e = .returned (.string ⟨(bol x).toArray⟩) ∧ w = w' := by
  cases x
  all_goals
    go_enter Try.func27, Try.ntmps27
    go_wp2
    go_ret
    exact ⟨rfl, rfl⟩
theorem ba_append (l : List UInt8) (s : ByteArray) : (⟨l.toArray⟩ : ByteArray) ++ s = ⟨(l ++ s.data.toList).toArray⟩ := by
  apply ByteArray.ext
  apply Array.toList_inj.1
  simp [ByteArray.data_append]
theorem ref_text (w : World) (s : ByteArray) (hs : s.size ≤ maxLen) (hs2 : (txt s.data.toList).length ≤ 140737488355328) : Calls Try.prog 26 #[.string s] w fun e w' => e = .returned (.string ⟨(txt s.data.toList).toArray⟩) ∧ Below w.heap.size w w' := by
  have hn := ref_num w s.size (by omega) (by unfold maxLen at hs; omega)
  have hl : s.data.toList.length = s.size := by simp
  unfold txt at hs2 ⊢
  rw [List.length_append] at hs2
  rw [hl] at hs2 ⊢
  have hs3 : ¬ 9223372036854775807 < (num (zz s.size)).length + s.size := by omega
  have HN := Lib.hid hn; clear hn hl hs hs2
  go_enter Try.func26, Try.ntmps26
  go_wp2_with (go_at_call 23; refine HN.out.mono ?_; rintro e w1 ⟨rfl, hb⟩)
  go_ret
  exact ⟨by rw [ba_append]; rfl, hb⟩
end Go.Proofs.Ytiklpifaaogcpaa
