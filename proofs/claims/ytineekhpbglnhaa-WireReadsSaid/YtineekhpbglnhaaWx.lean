/- WireForm. -/
import Derived.Test.YtineekhpbglnhaaWw
import Derived.WalkKit
import Derived.WalkLawsBesides
import Derived.WalkSpells
import Derived.Below
import Derived.Deep.RegionHeld3
import Derived.Deep.QuietTactic
import Derived.BigQuiet
import Derived.Deep.DeepCutAuto
import Derived.Deep.DeepMust
import Derived.KernelRfl
import Derived.Lib.Hide
import Derived.Outline
import Derived.RegionTactic
import Derived.StillTailTactics
import Derived.Laws.IdiomStrings
namespace Go.Proofs.Ytineekhpbglnhaa
open Go.RowKit Go.Cl
set_option maxRecDepth 100000
set_option linter.unusedVariables false
set_option linter.unusedSimpArgs false

open Go.Wr Go.Rdr
theorem err_num {s : List UInt8} {t : St} (h0 : t.e = 0) (h : (rNum s t).2.e ≠ 0) : (rNum s t).2.at_ = t.at_ := by
  unfold rNum at h ⊢
  rw [if_pos h0] at h ⊢
  split at h
  · rfl
  · simp at h
theorem err_bool {s : List UInt8} {t : St} (h0 : t.e = 0) (h : (rBool s t).2.e ≠ 0) : (rBool s t).2.at_ = t.at_ := by
  unfold rBool at h ⊢
  rw [if_pos h0] at h ⊢
  split at h
  · rfl
  · split at h
    · rename_i h1; rw [if_pos h1]
    · simp at h
theorem err_text {s : List UInt8} {m : Int} {t : St} (h0 : t.e = 0) (h : (rText s m t).2.e ≠ 0) : (rText s m t).2.at_ = t.at_ := by
  unfold rText at h ⊢
  rw [if_pos h0] at h ⊢
  split at h
  · rfl
  · split at h
    · rename_i h1; rw [if_pos h1]
    · rename_i h1
      rw [if_neg h1]
      split at h
      · rename_i h2; rw [if_pos h2]
      · simp at h
theorem ext_pre (s : ByteArray) (a : Nat) : (⟨(s.data.toList.take a).toArray⟩ : ByteArray) = s.extract 0 a := by
  have := ext_take s 0 a
  rw [Nat.zero_add] at this
  rw [← this]
  simp
def FormInv (w : World) (r b n : Nat) (s : ByteArray) (x : Value) (wr : World) : Prop := ∃ (k : Nat) (c : Nat → Nat) (t : St), x = .int .i64 k ∧ k ≤ n ∧ Rds 60 c 1 wr r s t ∧ Wri c 2 wr b (s.data.toList.take t.at_) ∧ t.e = 0 ∧ Mv [1, 2] zc w c wr
set_option maxHeartbeats 2000000 in
theorem wireForm (w : World) (base : Nat) (v : Value) (l : List OpT) (hs : SlIs w base 4 OpR v l) (s : ByteArray) (hle : s.size ≤ 1048576) :
    Calls Try.prog 7 #[.string s, v] w fun e w' => e = .returned (.bool true) ∧ Below w.heap.size w w' := by
  obtain ⟨p, c, rfl, hlc, hcm⟩ := hs.form
  unfold maxLen at hcm
  have HLE := Lib.hid hle
  have HSZ : Hid (s.size ≤ maxLen) := Lib.hid (by unfold maxLen; omega)
  have HSD : Hid (s.data.toList.length = s.size) := Lib.hid (by simp)
  clear hle
  have HSW := Lib.hid hs; clear hs
  go_enter Try.func7, Try.ntmps7
  go_wp2_with (first | (go_at_call 9; refine (fixed_true _).mono ?_; rintro e w0 ⟨rfl, hb0⟩) | (go_at_call 11; refine (rn_new (S := [1, 2]) zc 1 (by simp) w0 s HSZ.out).mono ?_; rintro e w1 ⟨r, c1, rfl, h1, m1, _⟩; obtain ⟨c2, h2, m2⟩ := wn_new (S := [2]) c1 2 (by simp) w1))
  replace h1 := h1.kept m2 (by simp)
  replace m1 := ((Mv.of_below (S := [1, 2]) (col := zc) hb0).trans m1).trans (m2.sub (T := [1, 2]) (by simp))
  clear m2
  generalize w1.heap.size = b at *
  go_loopw [7] (FormInv w r b l.length s) (fun t _ => l.length + 1 - (intOf t).toNat)
  case atStart => exact ⟨0, c2, ⟨0, 0⟩, rfl, Nat.zero_le _, h1, by rw [List.take_zero]; exact h2, rfl, m1⟩
  case round =>
    clear h1 h2 m1
    obtain ⟨k, c1, t, rfl, hk, h1, hW1, ht0, m1⟩ := hrel
    have hbw := m1.toBelow (zc0 w)
    have hatl := h1.at_lt
    have HAT := Lib.hid h1.ok.at_
    have HT0 := Lib.hid ht0; clear ht0
    by_cases hlt : k < l.length
    · have hs := HSW.out
      obtain ⟨bs, os, c', cs, hv, _, _, hcl, ⟨hcs, k0, k1, n1, n2, sz⟩, hbs, hat⟩ := hs.at hbw k hlt
      simp only [Value.slice.injEq] at hv
      obtain ⟨rfl, _, rfl⟩ := hv
      subst hcs
      have q0 := hat 0 (by omega)
      have q1 := hat 1 (by omega)
      have q2 := hat 2 (by omega)
      have q3 := hat 3 (by omega)
      simp only [List.getElem?_cons_zero, List.getElem?_cons_succ, Nat.add_zero] at q0 q1 q2 q3
      clear hs
      generalize l[k] = X at *
      obtain ⟨K, I, S, M⟩ := X
      simp only at q0 q1 q2 q3 k0 k1
      have hk4 : K % 4 = 0 ∨ K % 4 = 1 ∨ K % 4 = 2 ∨ K % 4 = 3 := by omega
      clear n1 n2 sz hat hcl
      rcases hk4 with h4 | h4 | h4 | h4
      · obtain ⟨st, hst⟩ : ∃ st, (rNum s.data.toList t).2 = st := ⟨_, rfl⟩
        obtain ⟨val, hval⟩ : ∃ val, (rNum s.data.toList t).1 = val := ⟨_, rfl⟩
        have hform := fun h => form_num (t := t) HAT.out HT0.out h
        have herr := fun h => err_num (s := s.data.toList) (t := t) HT0.out h
        rw [hst] at hform herr
        rw [hval] at hform
        by_cases he : st.e = 0
        · obtain ⟨f1, f2, n1, n2⟩ := hform he
          have hlen : (s.data.toList.take t.at_).length + (num (zz val)).length ≤ 140737488355328 := by
            rw [← List.length_append, ← f1, List.length_take, HSD.out]; have := HLE.out; omega
          have HF := Lib.hid f1; have HE := Lib.hid he; have HLN := Lib.hid hlen; have HST := Lib.hid hst; have HVAL := Lib.hid hval
          have N1 := Lib.hid n1; have N2 := Lib.hid n2; clear n1 n2
          clear hform herr f1 he hlen hst hval hatl hbw
          go_wp2_with (first | (go_at_call 13; refine (rn_num (S := [1, 2]) c1 1 (by simp) _ r s t h1).mono ?_; rintro e w2 ⟨c2, rfl, h2, m2, m2'⟩; rw [HST.out] at h2; rw [HVAL.out]; have hW2 := hW1.kept m2' (by simp)) | (go_at_call 10; refine (wn_num (S := [2]) c2 2 (by simp) _ b _ hW2 val N1.out N2.out HLN.out).mono ?_; rintro e w3 ⟨c3, rfl, hW3, m3⟩; have h3 := h2.kept m3 (by simp)) | (go_at_call 23; refine (rd_err _ 1 _ _ _ _ h3).mono ?_; rintro e w' ⟨rfl, rfl⟩; rw [HE.out]) | (go_at_call 23; refine (rd_err _ 1 _ _ _ _ h2).mono ?_; rintro e w' ⟨rfl, rfl⟩; rw [HE.out]))
          rw [← HF.out] at hW3
          have m4 := (m1.trans m2).trans (m3.sub (T := [1, 2]) (by simp))
          clear h1 hW1 h2 hW2 m1 m2 m2' m3 q0 q1 q2 q3
          go_roundw
          case rel => exact ⟨k + 1, c3, st, by go_num, by omega, h3, hW3, HE.out, m4⟩
          case measure => simp [intOf]; omega
        · have hat2 := herr he
          have b1 : ((st.e : Int) == 0) = false := by rw [beq_eq_false_iff_ne]; omega
          have b2 : ((st.e : Int) != 0) = true := by simp; omega
          have hle2 : t.at_ ≤ s.size := hatl
          generalize ha : t.at_ = a at *
          have HA2 := Lib.hid hat2
          have HEX := Lib.hid (ext_pre s a)
          have HST := Lib.hid hst; have HVAL := Lib.hid hval
          clear hform herr he hst hval hatl hat2 ha
          go_wp2_with (first | (go_at_call 13; refine (rn_num (S := [1, 2]) c1 1 (by simp) _ r s t h1).mono ?_; rintro e w2 ⟨c2, rfl, h2, m2, m2'⟩; rw [HST.out] at h2; rw [HVAL.out]; have hW2 := hW1.kept m2' (by simp)) | (go_at_call 23; refine (rd_err _ 1 _ _ _ _ h2).mono ?_; rintro e w' ⟨rfl, rfl⟩) | (go_at_call 14; refine (rd_at _ 1 _ _ _ _ h2).mono ?_; rintro e w' ⟨rfl, rfl⟩; rw [HA2.out]) | (go_at_call 12; refine (wr_data _ 2 _ _ _ hW2).mono ?_; rintro e w' ⟨rfl, rfl⟩; rw [HEX.out]))
          go_ret
          exact ⟨rfl, (m1.trans m2).toBelow (zc0 w)⟩
      · obtain ⟨st, hst⟩ : ∃ st, (rBool s.data.toList t).2 = st := ⟨_, rfl⟩
        obtain ⟨val, hval⟩ : ∃ val, (rBool s.data.toList t).1 = val := ⟨_, rfl⟩
        have hform := fun h => form_bool (t := t) HAT.out HT0.out h
        have herr := fun h => err_bool (s := s.data.toList) (t := t) HT0.out h
        rw [hst] at hform herr
        rw [hval] at hform
        by_cases he : st.e = 0
        · obtain ⟨f1, f2⟩ := hform he
          have hlen : (s.data.toList.take t.at_).length + (bol val).length ≤ 140737488355328 := by
            rw [← List.length_append, ← f1, List.length_take, HSD.out]; have := HLE.out; omega
          have HF := Lib.hid f1; have HE := Lib.hid he; have HLN := Lib.hid hlen; have HST := Lib.hid hst; have HVAL := Lib.hid hval
          have hb1 : (bol val).length = 1 := by (unfold bol; split <;> rfl)
          rw [hb1] at hlen
          replace HLN := Lib.hid hlen; clear hb1
          clear hform herr f1 he hlen hst hval hatl hbw
          go_wp2_with (first | (go_at_call 19; refine (rn_bool (S := [1, 2]) c1 1 (by simp) _ r s t h1).mono ?_; rintro e w2 ⟨c2, rfl, h2, m2, m2'⟩; rw [HST.out] at h2; rw [HVAL.out]; have hW2 := hW1.kept m2' (by simp)) | (go_at_call 27; refine (wn_bool (S := [2]) c2 2 (by simp) _ b _ hW2 val HLN.out).mono ?_; rintro e w3 ⟨c3, rfl, hW3, m3⟩; have h3 := h2.kept m3 (by simp)) | (go_at_call 23; refine (rd_err _ 1 _ _ _ _ h3).mono ?_; rintro e w' ⟨rfl, rfl⟩; rw [HE.out]) | (go_at_call 23; refine (rd_err _ 1 _ _ _ _ h2).mono ?_; rintro e w' ⟨rfl, rfl⟩; rw [HE.out]))
          rw [← HF.out] at hW3
          have m4 := (m1.trans m2).trans (m3.sub (T := [1, 2]) (by simp))
          clear h1 hW1 h2 hW2 m1 m2 m2' m3 q0 q1 q2 q3
          go_roundw
          case rel => exact ⟨k + 1, c3, st, by go_num, by omega, h3, hW3, HE.out, m4⟩
          case measure => simp [intOf]; omega
        · have hat2 := herr he
          have b1 : ((st.e : Int) == 0) = false := by rw [beq_eq_false_iff_ne]; omega
          have b2 : ((st.e : Int) != 0) = true := by simp; omega
          have hle2 : t.at_ ≤ s.size := hatl
          generalize ha : t.at_ = a at *
          have HA2 := Lib.hid hat2
          have HEX := Lib.hid (ext_pre s a)
          have HST := Lib.hid hst; have HVAL := Lib.hid hval
          clear hform herr he hst hval hatl hat2 ha
          go_wp2_with (first | (go_at_call 19; refine (rn_bool (S := [1, 2]) c1 1 (by simp) _ r s t h1).mono ?_; rintro e w2 ⟨c2, rfl, h2, m2, m2'⟩; rw [HST.out] at h2; rw [HVAL.out]; have hW2 := hW1.kept m2' (by simp)) | (go_at_call 23; refine (rd_err _ 1 _ _ _ _ h2).mono ?_; rintro e w' ⟨rfl, rfl⟩) | (go_at_call 14; refine (rd_at _ 1 _ _ _ _ h2).mono ?_; rintro e w' ⟨rfl, rfl⟩; rw [HA2.out]) | (go_at_call 12; refine (wr_data _ 2 _ _ _ hW2).mono ?_; rintro e w' ⟨rfl, rfl⟩; rw [HEX.out]))
          go_ret
          exact ⟨rfl, (m1.trans m2).toBelow (zc0 w)⟩
      · obtain ⟨st, hst⟩ : ∃ st, (rText s.data.toList M t).2 = st := ⟨_, rfl⟩
        obtain ⟨val, hval⟩ : ∃ val, (rText s.data.toList M t).1 = val := ⟨_, rfl⟩
        have hform := fun h => form_text (most := M) (t := t) HAT.out HT0.out h
        have herr := fun h => err_text (s := s.data.toList) (m := M) (t := t) HT0.out h
        rw [hst] at hform herr
        rw [hval] at hform
        by_cases he : st.e = 0
        · obtain ⟨f1, f2⟩ := hform he
          have hlen : (s.data.toList.take t.at_).length + (txt val).length ≤ 140737488355328 := by
            rw [← List.length_append, ← f1, List.length_take, HSD.out]; have := HLE.out; omega
          have HF := Lib.hid f1; have HE := Lib.hid he; have HLN := Lib.hid hlen; have HST := Lib.hid hst; have HVAL := Lib.hid hval
          have HVS : Hid ((⟨val.toArray⟩ : ByteArray).size ≤ maxLen) := Lib.hid (by show val.toArray.size ≤ maxLen; rw [List.size_toArray]; unfold txt at hlen; rw [List.length_append] at hlen; unfold maxLen; omega)
          clear hform herr f1 he hlen hst hval hatl hbw
          go_wp2_with (first | (go_at_call 21; refine (rn_text (S := [1, 2]) c1 1 (by simp) _ r s t h1 M).mono ?_; rintro e w2 ⟨c2, rfl, h2, m2, m2'⟩; rw [HST.out] at h2; rw [HVAL.out]; have hW2 := hW1.kept m2' (by simp)) | (go_at_call 28; refine (wn_text (S := [2]) c2 2 (by simp) _ b _ hW2 ⟨val.toArray⟩ HVS.out HLN.out).mono ?_; rintro e w3 ⟨c3, rfl, hW3, m3⟩; have h3 := h2.kept m3 (by simp)) | (go_at_call 23; refine (rd_err _ 1 _ _ _ _ h3).mono ?_; rintro e w' ⟨rfl, rfl⟩; rw [HE.out]) | (go_at_call 23; refine (rd_err _ 1 _ _ _ _ h2).mono ?_; rintro e w' ⟨rfl, rfl⟩; rw [HE.out]))
          rw [← HF.out] at hW3
          have m4 := (m1.trans m2).trans (m3.sub (T := [1, 2]) (by simp))
          clear h1 hW1 h2 hW2 m1 m2 m2' m3 q0 q1 q2 q3
          go_roundw
          case rel => exact ⟨k + 1, c3, st, by go_num, by omega, h3, hW3, HE.out, m4⟩
          case measure => simp [intOf]; omega
        · have hat2 := herr he
          have b1 : ((st.e : Int) == 0) = false := by rw [beq_eq_false_iff_ne]; omega
          have b2 : ((st.e : Int) != 0) = true := by simp; omega
          have hle2 : t.at_ ≤ s.size := hatl
          generalize ha : t.at_ = a at *
          have HA2 := Lib.hid hat2
          have HEX := Lib.hid (ext_pre s a)
          have HST := Lib.hid hst; have HVAL := Lib.hid hval
          clear hform herr he hst hval hatl hat2 ha
          go_wp2_with (first | (go_at_call 21; refine (rn_text (S := [1, 2]) c1 1 (by simp) _ r s t h1 M).mono ?_; rintro e w2 ⟨c2, rfl, h2, m2, m2'⟩; rw [HST.out] at h2; rw [HVAL.out]; have hW2 := hW1.kept m2' (by simp)) | (go_at_call 23; refine (rd_err _ 1 _ _ _ _ h2).mono ?_; rintro e w' ⟨rfl, rfl⟩) | (go_at_call 14; refine (rd_at _ 1 _ _ _ _ h2).mono ?_; rintro e w' ⟨rfl, rfl⟩; rw [HA2.out]) | (go_at_call 12; refine (wr_data _ 2 _ _ _ hW2).mono ?_; rintro e w' ⟨rfl, rfl⟩; rw [HEX.out]))
          go_ret
          exact ⟨rfl, (m1.trans m2).toBelow (zc0 w)⟩
      · have het := HT0.out
        go_wp2_with (go_at_call 23; refine (rd_err _ 1 _ _ _ _ h1).mono ?_; rintro e w' ⟨rfl, rfl⟩; rw [HT0.out])
        go_roundw
        case rel => exact ⟨k + 1, c1, t, by go_num, by omega, h1, hW1, het, m1⟩
        case measure => simp [intOf]; omega
    · have hkn : k = l.length := by omega
      clear hlt hk
      subst hkn
      have hat2 : t.at_ ≤ s.size := hatl
      generalize ha : t.at_ = a at *
      have HA := Lib.hid ha; clear ha hatl
      have HEX := Lib.hid (ext_pre s a)
      go_wp2_with (first | (go_at_call 14; refine (rd_at _ 1 _ _ _ _ h1).mono ?_; rintro e w' ⟨rfl, rfl⟩; rw [HA.out]) | (go_at_call 12; refine (wr_data _ 2 _ _ _ hW1).mono ?_; rintro e w' ⟨rfl, rfl⟩; rw [HEX.out]))
      go_ret
      exact ⟨rfl, hbw⟩
end Go.Proofs.Ytineekhpbglnhaa
