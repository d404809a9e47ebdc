/- What is written is read. -/
import Derived.Test.YtineekhpbglnhaaWu
import Derived.WalkKit
import Derived.WalkLawsBesides
import Derived.WalkSpells
import Derived.Below
import Derived.Deep.RegionHeld3
import Derived.Deep.QuietTactic
import Derived.BigQuiet
import Derived.Deep.DeepCutAuto
import Derived.Deep.DeepMust
import Derived.KernelRfl
import Derived.Lib.Hide
import Derived.Outline
import Derived.RegionTactic
import Derived.StillTailTactics
import Derived.Laws.IdiomStrings
namespace Go.Proofs.Ytineekhpbglnhaa
open Go.RowKit Go.Cl
set_option maxRecDepth 100000
set_option linter.unusedVariables false
set_option linter.unusedSimpArgs false

open Go.Wr Go.Rdr
theorem encs_split (l : List OpT) (k : Nat) (h : k < l.length) : encs l = encs (l.take k) ++ (encT l[k] ++ encs (l.drop (k + 1))) := by
  have h1 : encs l = encs (l.take k) ++ encs (l.drop k) := by unfold encs; rw [← List.flatMap_append, List.take_append_drop]
  rw [h1, List.drop_eq_getElem_cons h]
  unfold encs; rw [List.flatMap_cons]
theorem ok_of {K N M : Int} {S : ByteArray} (k0 : 0 ≤ K) (n1 : -9223372036854775808 ≤ N) (n2 : N ≤ 9223372036854775807) (sz : S.size ≤ maxLen) : Ok (thing K N S M) :=
  ⟨k0, n1, n2, by unfold maxLen at sz; have hl : S.data.toList.length = S.size := by simp
                  show S.data.toList.length ≤ _; omega⟩
def BackInv (w : World) (r : Nat) (s : ByteArray) (l : List OpT) (t : Value) (wr : World) : Prop := ∃ (k : Nat) (c : Nat → Nat), t = .int .i64 k ∧ k ≤ l.length ∧ Rds 60 c 2 wr r s ⟨(encs (l.take k)).length, 0⟩ ∧ Mv [1, 2] zc w c wr
set_option maxHeartbeats 1000000 in
theorem back_true (w : World) (base : Nat) (v : Value) (l : List OpT) (hs : SlIs w base 4 OpR v l) (s : ByteArray) (hs0 : s.data.toList = encs l) (hsz : s.size ≤ maxLen) :
    Calls Try.prog 25 #[v, .string s] w fun e w' => e = .returned (.bool true) ∧ Below w.heap.size w w' := by
  obtain ⟨p, c, rfl, hlc, hcm⟩ := hs.form
  unfold maxLen at hcm
  have HS0 := Lib.hid hs0; clear hs0
  have hl : s.data.toList.length = s.size := by simp
  have HL := Lib.hid hl; clear hl
  go_enter Try.func25, Try.ntmps25
  go_wp2_with (go_at_call 11; refine (rn_new (S := [1, 2]) zc 2 (by simp) w s hsz).mono ?_; rintro e w1 ⟨r, c1, rfl, h1, m1, _⟩)
  go_loopw [6] (BackInv w r s l) (fun t _ => l.length + 1 - (intOf t).toNat)
  case atStart => exact ⟨0, c1, rfl, Nat.zero_le _, h1, m1⟩
  case round =>
    clear h1 m1
    obtain ⟨k, c1, rfl, hk, h1, m1⟩ := hrel
    have hbw := m1.toBelow (zc0 w)
    by_cases hlt : k < l.length
    · obtain ⟨bs, os, c', cs, hv, _, _, hcl, ⟨hcs, k0, k1, n1, n2, sz⟩, hbs, hat⟩ := hs.at hbw k hlt
      simp only [Value.slice.injEq] at hv
      obtain ⟨rfl, _, rfl⟩ := hv
      subst hcs
      have q0 := hat 0 (by omega)
      have q1 := hat 1 (by omega)
      have q2 := hat 2 (by omega)
      have q3 := hat 3 (by omega)
      simp only [List.getElem?_cons_zero, List.getElem?_cons_succ, Nat.add_zero] at q0 q1 q2 q3
      have hsp := encs_split l k hlt
      have hes := encs_snoc l k hlt
      generalize l[k] = X at *
      obtain ⟨K, I, S, M⟩ := X
      simp only at q0 q1 q2 q3 k0 k1 n1 n2 sz
      have hw := read_whole (thing K I S M) (ok_of k0 n1 n2 sz) (encs (l.take k)) (encs (l.drop (k + 1)))
      have hw2 : right s.data.toList (thing K I S M) ⟨(encs (l.take k)).length, 0⟩ ∧ after s.data.toList (thing K I S M) ⟨(encs (l.take k)).length, 0⟩ = ⟨(encs (l.take (k + 1))).length, 0⟩ := by
        rw [HS0.out, hsp, hes, List.length_append]; exact hw
      have HW := Lib.hid hw2
      clear hw hw2 hsp hes n1 n2 sz hat hcl
      go_wp2_with (go_at_call 26; refine (read_ok [1, 2] c1 2 (by simp) (by decide) wr r s _ h1 K I M S k0 k1).mono ?_; rintro e w2 ⟨c2, x, rfl, hx, h2, m2⟩; obtain rfl := hx HW.out.1; rw [HW.out.2] at h2)
      replace m2 := m1.trans m2
      clear h1 m1 hbw q0 q1 q2 q3
      go_roundw
      case rel => exact ⟨k + 1, c2, by go_num, by omega, h2, m2⟩
      case measure => simp [intOf]; omega
    · have hkn : k = l.length := by omega
      clear hlt hk
      subst hkn
      simp only [List.take_length] at h1
      have he : rEnd s.data.toList ⟨(encs l).length, 0⟩ = 0 := by unfold rEnd; rw [HS0.out]; simp
      have hz : (encs l).length = s.size := by rw [← HS0.out]; exact HL.out
      rw [hz] at he h1
      have HE := Lib.hid he; clear he hz
      go_wp2_with (first | (go_at_call 15; refine (rd_end _ 2 _ _ _ _ h1).mono ?_; rintro e w6 ⟨rfl, nq, rfl⟩; rw [HE.out]; have h6 := h1.below (below_drewN (Below.refl wr.heap.size wr) nq)) | (go_at_call 14; refine (rd_at _ 2 _ _ _ _ h6).mono ?_; rintro e w5 ⟨rfl, rfl⟩))
      go_ret
      exact ⟨rfl, below_drewN hbw nq⟩
end Go.Proofs.Ytineekhpbglnhaa
