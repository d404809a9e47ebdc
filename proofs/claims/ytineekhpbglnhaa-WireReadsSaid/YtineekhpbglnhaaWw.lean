/- WireBack. -/
import Derived.Test.YtineekhpbglnhaaWv
import Derived.WalkKit
import Derived.WalkLawsBesides
import Derived.WalkSpells
import Derived.Below
import Derived.Deep.RegionHeld3
import Derived.Deep.QuietTactic
import Derived.BigQuiet
import Derived.Deep.DeepCutAuto
import Derived.Deep.DeepMust
import Derived.KernelRfl
import Derived.Lib.Hide
import Derived.Outline
import Derived.RegionTactic
import Derived.StillTailTactics
import Derived.Laws.IdiomStrings
namespace Go.Proofs.Ytineekhpbglnhaa
open Go.RowKit Go.Cl
set_option maxRecDepth 100000
set_option linter.unusedVariables false
set_option linter.unusedSimpArgs false

open Go.Wr Go.Rdr
/-- Read off the beginning of what was written: all is right so far, or the bytes have ended. -/
def CutOk (l : List OpT) (d k : Nat) (t : St) : Prop := (t.e = 0 ∧ t.at_ = (encs (l.take k)).length ∧ t.at_ ≤ d) ∨ t.e = 10
theorem cut_step (l : List OpT) (d k : Nat) (hlt : k < l.length) (K N M : Int) (S : ByteArray) (hX : l[k] = (K, N, S, M)) (hok : Ok (thing K N S M)) (t : St) (h : CutOk l d k t) (hd : d < (encs l).length) :
    CutOk l d (k + 1) (after ((encs l).take d) (thing K N S M) t) := by
  rcases h with ⟨h1, h2, h3⟩ | h
  · obtain ⟨a, e⟩ := t
    simp only at h1 h2 h3
    subst h1 h2
    have hsp := encs_split l k hlt
    have hes := encs_snoc l k hlt
    rw [hX] at hsp hes
    have hle : (encT (K, N, S, M)) = enc (thing K N S M) := rfl
    rw [hle] at hsp hes
    by_cases hc : (encs (l.take k)).length + (enc (thing K N S M)).length ≤ d
    · have e1 : (encs l).take d = encs (l.take k) ++ (enc (thing K N S M) ++ (encs (l.drop (k + 1))).take (d - (encs (l.take k)).length - (enc (thing K N S M)).length)) := by
        rw [hsp, List.take_append, List.take_of_length_le (l := encs (List.take k l)) (by omega), List.take_append, List.take_of_length_le (l := enc (thing K N S M)) (by omega)]
      rw [e1, (read_whole (thing K N S M) hok _ _).2]
      left
      exact ⟨rfl, by rw [hes, List.length_append], hc⟩
    · have e1 : (encs l).take d = encs (l.take k) ++ (enc (thing K N S M)).take (d - (encs (l.take k)).length) := by
        rw [hsp, List.take_append, List.take_of_length_le (l := encs (List.take k l)) (by omega), List.take_append_of_le_length (l₁ := enc (thing K N S M)) (by omega)]
      rw [e1]
      right
      exact read_cut (thing K N S M) hok _ _ (by omega)
  · right
    exact after_err _ _ _ h
theorem cut_end (l : List OpT) (d : Nat) (t : St) (h : CutOk l d l.length t) (hd : d < (encs l).length) : t.e = 10 := by
  rcases h with ⟨h1, h2, h3⟩ | h
  · rw [List.take_length] at h2; omega
  · exact h
theorem ext_zero (s : ByteArray) (d : Nat) : (s.extract 0 d).data.toList = s.data.toList.take d := by
  have := ext_take s 0 d
  rw [Nat.zero_add] at this
  rw [← this]
  simp
def CutInv (w : World) (r : Nat) (s : ByteArray) (l : List OpT) (d : Nat) (t : Value) (wr : World) : Prop := ∃ (k : Nat) (c : Nat → Nat) (st : St), t = .int .i64 k ∧ k ≤ l.length ∧ Rds 60 c 2 wr r s st ∧ CutOk l d k st ∧ Mv [1, 2] zc w c wr
set_option maxHeartbeats 1600000 in
theorem wireBack (w : World) (base : Nat) (v : Value) (l : List OpT) (hs : SlIs w base 4 OpR v l) (hle : (encs l).length ≤ 140737488355328) (C : Int) (hC0 : 0 ≤ C) (hC1 : C ≤ 65535) :
    Calls Try.prog 6 #[v, .int .u16 C] w fun e w' => e = .returned (.bool true) ∧ Below w.heap.size w w' := by
  obtain ⟨p, c, rfl, hlc, hcm⟩ := hs.form
  unfold maxLen at hcm
  have HLE := Lib.hid hle; clear hle
  go_enter Try.func6, Try.ntmps6
  go_wp2_with (go_at_call 9; refine (fixed_true _).mono ?_; rintro e w0 ⟨rfl, hb0⟩; obtain ⟨c0, h0, m0⟩ := wn_new (S := [1, 2]) zc 1 (by simp) w0)
  replace m0 := (Mv.of_below (S := [1, 2]) (col := zc) hb0).trans m0
  go_loopw [6] (PutInv w w0.heap.size l) (fun t _ => l.length + 1 - (intOf t).toNat)
  case atStart => exact ⟨0, c0, rfl, Nat.zero_le _, h0, m0⟩
  case round =>
    obtain ⟨k, c1, rfl, hk, h1, m1⟩ := hrel
    clear h0
    have hbw := m1.toBelow (zc0 w)
    by_cases hlt : k < l.length
    · obtain ⟨bs, os, c', cs, hv, _, _, hcl, ⟨hcs, k0, k1, n1, n2, sz⟩, hbs, hat⟩ := hs.at hbw k hlt
      simp only [Value.slice.injEq] at hv
      obtain ⟨rfl, _, rfl⟩ := hv
      subst hcs
      have q0 := hat 0 (by omega)
      have q1 := hat 1 (by omega)
      have q2 := hat 2 (by omega)
      have q3 := hat 3 (by omega)
      simp only [List.getElem?_cons_zero, List.getElem?_cons_succ, Nat.add_zero] at q0 q1 q2 q3
      have hes := encs_snoc l k hlt
      have hel := encs_le l (k + 1)
      rw [hes, List.length_append] at hel
      have hel2 := HLE.out
      generalize l[k] = X at *
      obtain ⟨K, I, S, M⟩ := X
      simp only at q0 q1 q2 q3 k0 k1 n1 n2 sz
      have HEL := Lib.hid (Nat.le_trans hel hel2); clear hel hel2
      have N1 := Lib.hid n1; have N2 := Lib.hid n2; have SZ := Lib.hid sz
      have HES := Lib.hid hes; clear hes
      clear n1 n2 sz hat hcl
      go_wp2_with (go_at_call 16; refine (put_ok (SS := [1, 2]) c1 1 (by simp) wr _ _ h1 K I M S k0 k1 N1.out N2.out SZ.out HEL.out).mono ?_; rintro e w2 ⟨c2, rfl, h2, m2⟩)
      replace m2 := m1.trans m2
      clear h1 m1 hbw q0 q1 q2 q3
      go_roundw
      case rel => exact ⟨k + 1, c2, by go_num, by omega, by rw [HES.out]; exact h2, m2⟩
      case measure => simp [intOf]; omega
    · have hkn : k = l.length := by omega
      clear hlt hk
      subst hkn
      simp only [List.take_length] at h1
      have hsr := hs.mono hbw
      have HS2 := Lib.hid hsr
      have HSW := Lib.hid hs
      clear hs hsr m0
      go_wp2_with (go_at_call 12; refine (wr_data _ 1 _ _ _ h1).mono ?_; rintro e w' ⟨rfl, rfl⟩)
      have HSD : Hid ((⟨(encs l).toArray⟩ : ByteArray).data.toList = encs l) := Lib.hid (by simp)
      have hsz : (⟨(encs l).toArray⟩ : ByteArray).size = (encs l).length := by show (encs l).toArray.size = _; simp
      have HSZ : Hid ((⟨(encs l).toArray⟩ : ByteArray).size ≤ maxLen) := Lib.hid (by rw [hsz]; have := HLE.out; unfold maxLen; omega)
      have HSL := Lib.hid hsz; clear hsz
      generalize (⟨(encs l).toArray⟩ : ByteArray) = s at *
      clear h1
      by_cases hz : s.size = 0
      · have hz2 : ((s.size : Int) == 0) = true := by rw [beq_iff_eq]; omega
        clear hz
        go_wp2_with (go_at_call 25; refine (back_true wr base _ l HS2.out s HSD.out HSZ.out).mono ?_; rintro e w3 ⟨rfl, hb3⟩)
        go_ret
        exact ⟨rfl, below_call hbw hb3⟩
      · have hz2 : ((s.size : Int) == 0) = false := by rw [beq_eq_false_iff_ne]; omega
        have hz3 : ¬ (s.size : Int) = 0 := by omega
        have hz4 : (0 : Int) < (s.size : Int) := by omega
        obtain ⟨d, hd, hd2⟩ : ∃ d : Nat, C % (s.size : Int) = d ∧ d < s.size := ⟨(C % (s.size : Int)).toNat, by have := Int.emod_nonneg C hz3; omega, by have := Int.emod_lt_of_pos C hz4; have := Int.emod_nonneg C hz3; omega⟩
        have ht : C.tmod (s.size : Int) = d := by rw [Int.tmod_eq_emod_of_nonneg hC0]; exact hd
        go_wp2_with (go_at_call 25; refine (back_true wr base _ l HS2.out s HSD.out HSZ.out).mono ?_; rintro e w3 ⟨rfl, hb3⟩)
        clear ht hz2 hz3 hz4
        have HD : Hid (d < (encs l).length) := Lib.hid (by rw [← HSL.out]; exact hd2)
        have HSE : Hid ((s.extract 0 d).data.toList = (encs l).take d) := Lib.hid (by rw [ext_zero, HSD.out])
        have hse : (s.extract 0 d).size ≤ maxLen := by
          have h1 : (s.extract 0 d).data.toList.length = (s.extract 0 d).size := by simp
          have h2 := HSZ.out
          rw [← h1, HSE.out, List.length_take]; have := HD.out; have := HLE.out; unfold maxLen; omega
        generalize s.extract 0 d = s' at *
        replace m1 := m1.after_below hb3
        refine (rn_new (S := [1, 2]) c1 2 (by simp) w3 s' hse).mono ?_; rintro e w4 ⟨r, c4, rfl, h4, m4, _⟩
        replace m4 := m1.trans m4
        clear hse m1 hbw HS2 hd hd2 hz
        go_wp2_with fail
        go_loopw [9] (CutInv w r s' l d) (fun t _ => l.length + 1 - (intOf t).toNat)
        case atStart => exact ⟨0, c4, ⟨0, 0⟩, rfl, Nat.zero_le _, h4, .inl ⟨rfl, by simp [encs], Nat.zero_le _⟩, m4⟩
        case round =>
          obtain ⟨k, c5, st, rfl, hk, h5, hco, m5⟩ := hrel
          clear h4 m4 hb3
          have hbw := m5.toBelow (zc0 w)
          have hs := HSW.out
          by_cases hlt : k < l.length
          · obtain ⟨bs, os, c', cs, hv, _, _, hcl, ⟨hcs, k0, k1, n1, n2, sz⟩, hbs, hat⟩ := hs.at hbw k hlt
            simp only [Value.slice.injEq] at hv
            obtain ⟨rfl, _, rfl⟩ := hv
            subst hcs
            have q0 := hat 0 (by omega)
            have q1 := hat 1 (by omega)
            have q2 := hat 2 (by omega)
            have q3 := hat 3 (by omega)
            simp only [List.getElem?_cons_zero, List.getElem?_cons_succ, Nat.add_zero] at q0 q1 q2 q3
            have hstep := fun (K N M : Int) (S : ByteArray) (hX : l[k] = (K, N, S, M)) (hok : Ok (thing K N S M)) => cut_step l d k hlt K N M S hX hok st hco HD.out
            generalize l[k] = X at *
            obtain ⟨K, I, S, M⟩ := X
            simp only at q0 q1 q2 q3 k0 k1 n1 n2 sz
            have HST := Lib.hid (hstep K I M S rfl (ok_of k0 n1 n2 sz))
            clear hstep hco n1 n2 sz hat hcl hs
            go_wp2_with (go_at_call 26; refine (read_ok [1, 2] c5 2 (by simp) (by decide) _ r s' _ h5 K I M S k0 k1).mono ?_; rintro e w2 ⟨c2, x, rfl, hx, h2, m2⟩; rw [HSE.out] at h2)
            replace m2 := m5.trans m2
            clear h5 m5 hbw q0 q1 q2 q3 hx
            go_roundw
            case rel => exact ⟨k + 1, c2, _, by go_num, by omega, h2, HST.out, m2⟩
            case measure => simp [intOf]; omega
          · have hkn : k = l.length := by omega
            clear hlt hk hs
            subst hkn
            have he := cut_end l d st hco HD.out
            have he2 : rEnd s'.data.toList st = 10 := by unfold rEnd; rw [he]; rfl
            have HE2 := Lib.hid he2; have HE := Lib.hid he
            clear he he2 hco
            go_wp2_with (first | (go_at_call 23; refine (rd_err _ 2 _ _ _ _ h5).mono ?_; rintro e w6 ⟨rfl, rfl⟩; rw [HE.out]) | (go_at_call 15; refine (rd_end _ 2 _ _ _ _ h5).mono ?_; rintro e w6 ⟨rfl, nq, rfl⟩; rw [HE2.out]))
            go_ret
            exact ⟨rfl, below_drewN hbw nq⟩
end Go.Proofs.Ytineekhpbglnhaa
