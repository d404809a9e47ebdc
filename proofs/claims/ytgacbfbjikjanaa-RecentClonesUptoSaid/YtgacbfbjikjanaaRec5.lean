/- Recent: First. -/
import Derived.Test.YtgacbfbjikjanaaRec4
import Derived.WalkKit
import Derived.WalkLawsBesides
import Derived.WalkSpells
import Derived.Below
import Derived.Deep.RegionHeld3
import Derived.Deep.QuietTactic
import Derived.BigQuiet
import Derived.Deep.DeepCutAuto
import Derived.Deep.DeepMust
import Derived.KernelRfl
import Derived.Lib.Hide
import Derived.Outline
import Derived.RegionTactic
import Derived.StillTailTactics
namespace Go.Proofs.Ytgacbfbjikjanaa
open Go.RowKit Go.Cl
set_option maxRecDepth 100000
set_option linter.unusedVariables false
set_option linter.unusedSimpArgs false


def fM (key : ByteArray) (after : Int) (m : Mk) : Bool := decide (after < m.1) && (m.2.toList == key.toList)
def fstV (L : List Mk) (key : ByteArray) (after : Int) : Int := match L.find? (fM key after) with | some m => m.1 | none => 0
def fstB (L : List Mk) (key : ByteArray) (after : Int) : Bool := (L.find? (fM key after)).isSome
theorem find_at {L : List Mk} {p : Mk → Bool} (k : Nat) (hk : k < L.length) (h1 : ∀ j (h : j < k), p (L[j]'(by omega)) = false) (h2 : p L[k] = true) : L.find? p = some L[k] := by
  induction L generalizing k with
  | nil => simp at hk
  | cons m L ih =>
    cases k with
    | zero => simp at h2 ⊢; simp [h2]
    | succ k =>
      have h3 := h1 0 (by omega)
      simp at h3
      rw [List.find?_cons_of_neg (by simp [h3])]
      exact ih k (by simpa using hk) (fun j hj => by simpa using h1 (j + 1) (by omega)) (by simpa using h2)
theorem find_no {L : List Mk} {p : Mk → Bool} (h1 : ∀ j (h : j < L.length), p L[j] = false) : L.find? p = none := by
  rw [List.find?_eq_none]
  intro m hm
  obtain ⟨j, hj, rfl⟩ := List.getElem_of_mem hm
  simp [h1 j hj]
def FsInv (w : World) (L : List Mk) (key : ByteArray) (after : Int) (t : Value) (wr : World) : Prop :=
  ∃ k : Nat, t = .int .i64 k ∧ k ≤ L.length ∧ Below w.heap.size w wr ∧ ∀ j (h : j < k) (h' : j < L.length), fM key after L[j] = false
set_option maxHeartbeats 1000000 in
theorem rc_first (col : Nat → Nat) (i : Nat) (w : World) (b : Nat) (L : List Mk) (R : Nat) (since last : Int) (h : Rec col i w b L R since last) (key : ByteArray) (after : Int) :
    Calls Try.prog 36 #[.pointer (some ⟨b, 0, none⟩), .string key, .int .i64 after] w fun e w' => e = .returned (.tuple #[.int .i64 (fstV L key after), .bool (fstB L key after)]) ∧ Below w.heap.size w w' := by
  have h0 := h
  obtain ⟨⟨v, X, F, hb, hr, hX, hF, hF0, hLX⟩, hlen, hcap⟩ := h
  have cb := hp_cell hb.hp
  clear hF0 hF hLX hr hX
  go_enter Try.func36, Try.ntmps36
  go_wp2
  go_loopw [8, 9, 16] (fun _ _ t wr => FsInv w L key after t wr) (fun _ _ t _ => L.length + 1 - (intOf t).toNat)
  case atStart => exact ⟨0, rfl, Nat.zero_le _, Below.refl _ _, fun j hj => by omega⟩
  case round =>
    obtain ⟨k, rfl, hk, hbel, hno⟩ := hrel
    clear cb
    by_cases hlt : k < L.length
    · have hat := rc_at col i wr b L R since last (h0.below hbel) k hlt
      have HNO := Lib.hid hno; clear hno
      have hf : fM key after L[k] = (decide (after < L[k].1) && (L[k].2.toList == key.toList)) := rfl
      have HF := Lib.hid hf; clear hf
      by_cases hN : after < L[k].1
      · cases hs : L[k].2.toList == key.toList with
        | true =>
          have hs' : L[k].2.toList = key.toList := by simpa using hs
          have e := find_at (p := fM key after) k hlt (fun j hj => HNO.out j hj (by omega)) (by rw [HF.out, hs]; simp [hN])
          have e1 : fstV L key after = L[k].1 := by unfold fstV; rw [e]
          have e2 : fstB L key after = true := by unfold fstB; rw [e]; rfl
          have E1 := Lib.hid e1; have E2 := Lib.hid e2
          clear e e1 e2
          generalize L[k] = m at *
          have HS := Lib.hid hs'; clear hs' hs HF
          have hs2 : (m.2.toList == key.toList) = true := by simpa using HS.out
          go_wp2_with (go_at_call 54; refine hat.mono ?_; rintro e w2 ⟨rfl, hb2⟩)
          go_ret2
          exact ⟨by rw [E1.out, E2.out]; rfl, below_alloc (below_call hbel hb2) _⟩
        | false =>
          have e : fM key after L[k] = false := by rw [HF.out, hs]; simp
          have HE := Lib.hid e; clear e HF
          go_wp2_with (go_at_call 54; refine hat.mono ?_; rintro e w2 ⟨rfl, hb2⟩)
          go_roundw
          case rel => exact ⟨k + 1, by go_num, by omega, below_alloc (below_call hbel hb2) _, fun j hj h' => by
            by_cases hjk : j = k
            · subst hjk; exact HE.out
            · exact HNO.out j (by omega) h'⟩
          case measure => simp [intOf]; omega
      · have e : fM key after L[k] = false := by rw [HF.out]; simp [hN]
        have HE := Lib.hid e; clear e HF
        have hN' : L[k].1 ≤ after := by omega
        clear hN
        go_wp2_with (go_at_call 54; refine hat.mono ?_; rintro e w2 ⟨rfl, hb2⟩)
        go_roundw
        case rel => exact ⟨k + 1, by go_num, by omega, below_alloc (below_call hbel hb2) _, fun j hj h' => by
          by_cases hjk : j = k
          · subst hjk; exact HE.out
          · exact HNO.out j (by omega) h'⟩
        case measure => simp [intOf]; omega
    · have e := find_no (p := fM key after) (L := L) (fun j hj => hno j (by omega) hj)
      have e1 : fstV L key after = 0 := by unfold fstV; rw [e]
      have e2 : fstB L key after = false := by unfold fstB; rw [e]; rfl
      have E1 := Lib.hid e1; have E2 := Lib.hid e2
      clear e e1 e2 hno
      go_wp2
      go_ret2
      exact ⟨by rw [E1.out, E2.out]; rfl, hbel⟩

end Go.Proofs.Ytgacbfbjikjanaa
