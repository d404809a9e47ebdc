/- Recent: Note. -/
import Derived.Test.YtgacbfbjikjanaaRec2
import Derived.WalkKit
import Derived.WalkLawsBesides
import Derived.WalkSpells
import Derived.Below
import Derived.Deep.RegionHeld3
import Derived.Deep.QuietTactic
import Derived.BigQuiet
import Derived.Deep.DeepCutAuto
import Derived.Deep.DeepMust
import Derived.KernelRfl
import Derived.Lib.Hide
import Derived.Outline
import Derived.RegionTactic
import Derived.StillTailTactics
namespace Go.Proofs.Ytgacbfbjikjanaa
open Go.RowKit Go.Cl
set_option maxRecDepth 100000
set_option linter.unusedVariables false
set_option linter.unusedSimpArgs false


theorem rc_put (col : Nat → Nat) (i : Nat) (w : World) (b : Nat) (L : List Mk) (R : Nat) (since last : Int) (N : Int) (K : ByteArray) (h : Rec col i w b L R since last) :
    Calls Try.prog 55 #[.pointer (some ⟨b, 0, none⟩), .agg #[.int .i64 N, .string K]] w fun e w' => e = .returned (.tuple #[]) ∧ Rec (paint col w i) i w' b (putM R (L, since) (N, K)).1 R (putM R (L, since) (N, K)).2 last ∧ Ch col i w w' := by
  have hl := h.len
  by_cases h0 : R = 0
  · subst h0
    obtain rfl : L = [] := List.eq_nil_of_length_eq_zero (by omega)
    simpa [putM] using rc_put0 col i w b since last N K h
  · by_cases h1 : L.length = R
    · have e : putM R (L, since) (N, K) = (L.tail ++ [(N, K)], (L.headD (0, ⟨#[]⟩)).1) := by
        cases L with
        | nil => simp at h1; omega
        | cons m L => simp at h1; simp [putM]; omega
      rw [e]; exact rc_put_full col i w b L R since last N K h (by omega) h1
    · have e : putM R (L, since) (N, K) = (L ++ [(N, K)], since) := by simp [putM]; omega
      rw [e]; exact rc_put_room col i w b L R since last N K h (by omega) (by omega)
/-- Texts in memory that are not of owner i. -/
def KeysAt (col : Nat → Nat) (i : Nat) (w : World) (v : Value) (keys : List ByteArray) : Prop :=
  ∃ p c, v = .slice p keys.length c ∧ c ≤ maxLen ∧ keys.length ≤ c ∧ ∀ k (h : k < keys.length), ∃ g o, p = some ⟨g, o, none⟩ ∧ w.cell? ⟨g, o + k, none⟩ = some (.string keys[k]) ∧ col g ≠ i
theorem Ch.cell {col : Nat → Nat} {i : Nat} {w w' : World} (h : Ch col i w w') {g o : Nat} {u : Value} (hu : w.cell? ⟨g, o, none⟩ = some u) (hc : col g ≠ i) : w'.cell? ⟨g, o, none⟩ = some u := by
  rw [← hu]; exact World.cell?_of_block (h.block g (World.block_lt_of_cell? w _ hu) hc)
theorem KeysAt.mv {S : List Nat} {col col' : Nat → Nat} {i j : Nat} {w w' : World} {v : Value} {keys : List ByteArray} (h : KeysAt col i w v keys) (hm : Mv S col w col' w') (hc : ∀ g, g < w.heap.size → col g ≠ i → col g ∉ S ∧ col g ≠ j) : KeysAt col' j w' v keys := by
  obtain ⟨p, c, hv, hc1, hc2, hx⟩ := h
  refine ⟨p, c, hv, hc1, hc2, fun k hk => ?_⟩
  obtain ⟨g, o, hp, hu, hg⟩ := hx k hk
  have hlt := World.block_lt_of_cell? w _ hu
  obtain ⟨h1, h2⟩ := hc g hlt hg
  exact ⟨g, o, hp, (World.cell?_of_block (hm.block g hlt h1)).trans hu, by rw [hm.col g hlt]; exact h2⟩
def notM (R : Nat) (st : List Mk × Int) (N : Int) (keys : List ByteArray) : List Mk × Int := keys.foldl (fun st k => putM R st (N, k)) st
theorem notM_succ (R : Nat) (st : List Mk × Int) (N : Int) (keys : List ByteArray) (k : Nat) (hk : k < keys.length) : notM R st N (keys.take (k + 1)) = putM R (notM R st N (keys.take k)) (N, keys[k]) := by
  unfold notM
  rw [List.take_succ_eq_append_getElem hk, List.foldl_append]; rfl
def RcInv (col : Nat → Nat) (i : Nat) (w : World) (b : Nat) (st : List Mk × Int) (R : Nat) (N : Int) (keys : List ByteArray) (t : Value) (wr : World) : Prop :=
  ∃ k : Nat, t = .int .i64 k ∧ k ≤ keys.length ∧ Rec (paint col w i) i wr b (notM R st N (keys.take k)).1 R (notM R st N (keys.take k)).2 N ∧ Ch col i w wr
set_option maxHeartbeats 1000000 in
theorem rc_note_ok (col : Nat → Nat) (i : Nat) (w : World) (b : Nat) (L : List Mk) (R : Nat) (since last : Int) (N : Int) (v : Value) (keys : List ByteArray) (h : Rec col i w b L R since last) (hk : KeysAt col i w v keys)
    (h1 : last < N) (h2 : N ≤ 1099511627776) :
    Calls Try.prog 33 #[.pointer (some ⟨b, 0, none⟩), .int .i64 N, v] w fun e w' => e = .returned (.bool true) ∧ Rec (paint col w i) i w' b (notM R (L, since) N keys).1 R (notM R (L, since) N keys).2 N ∧ Ch col i w w' := by
  obtain ⟨p, c, rfl, hcm, hkc, hkeys⟩ := hk
  unfold maxLen at hcm
  obtain ⟨⟨v, X, F, hb, hr, hX, hF, hF0, hLX⟩, hlen, hcap⟩ := h
  have hvb := hr.ne hb.hp (by decide)
  have hcb : paint col w i b = i := paint_of hb.col
  have cb := hp_cell hb.hp; have fb := hp_free hb.hp
  have HF0 := Lib.hid hF0; clear hF0
  have hst : ∀ W, W = w.setCell ⟨b, 4, none⟩ (.int .i64 N) → Rec (paint col w i) i W b L R since N ∧ Ch col i w W := fun W hW => by
    rw [hW]
    exact ⟨⟨⟨v, X, F, ⟨hp_set hb.hp _, hcb⟩, (hr.set hvb _).recol (fun g hg => paint_of (hr.col g hg)), hX, hF, HF0.out, hLX⟩, hlen, hcap⟩, Ch.refl.setCell hcb _⟩
  have HST := Lib.hid hst; clear hst
  clear hb hr hF hLX
  go_enter Try.func33, Try.ntmps33
  go_wp2
  refine Ph.at_world ?_; intro W hW
  obtain ⟨hR0, hC0⟩ := HST.out W hW
  clear hW HST cb fb
  go_loopw [8, 29] (fun _ t wr => RcInv col i w b (L, since) R N keys t wr) (fun _ t _ => keys.length + 1 - (intOf t).toNat)
  case atStart => exact ⟨0, rfl, Nat.zero_le _, by simpa [notM] using hR0, hC0⟩
  case round =>
    clear hR0 hC0
    obtain ⟨k, rfl, hk, hR, hC⟩ := hrel
    by_cases hlt : k < keys.length
    · obtain ⟨g, o, rfl, hu, hg⟩ := hkeys k hlt
      have cu := Ch.cell hC hu hg
      have hs := Lib.hid (notM_succ R (L, since) N keys k hlt)
      have hk0 : (0 : Int) ≤ (k : Int) := by omega
      clear hu hg
      go_wp2_with (go_at_call 55; refine (rc_put _ i wr b _ R _ N N keys[k] hR).mono ?_; rintro e w2 ⟨rfl, hR2, hC2⟩; rw [paint_paint hC.size] at hR2)
      go_roundw
      case rel => exact ⟨k + 1, by go_num, by omega, by rw [hs.out]; exact hR2, hC.trans hC2⟩
      case measure => simp [intOf]; omega
    · have hka : keys.take k = keys := List.take_of_length_le (by omega)
      rw [hka] at hR
      clear hka
      go_wp2
      go_ret
      exact ⟨rfl, hR, hC⟩
theorem rc_note_no (col : Nat → Nat) (i : Nat) (w : World) (b : Nat) (L : List Mk) (R : Nat) (since last : Int) (N : Int) (v : Value) (h : Rec col i w b L R since last) (h1 : N ≤ last ∨ 1099511627776 < N) :
    Calls Try.prog 33 #[.pointer (some ⟨b, 0, none⟩), .int .i64 N, v] w fun e w' => e = .returned (.bool false) ∧ w = w' := by
  obtain ⟨⟨v, X, F, hb, hr, hX, hF, hF0, hLX⟩, hlen, hcap⟩ := h
  have cb := hp_cell hb.hp
  clear hF0
  by_cases h2 : N ≤ last
  · clear h1
    go_enter Try.func33, Try.ntmps33
    go_wp2
    go_ret
    exact ⟨rfl, rfl⟩
  · have h3 : 1099511627776 < N := by omega
    have h4 : last < N := by omega
    clear h1 h2
    go_enter Try.func33, Try.ntmps33
    go_wp2
    go_ret
    exact ⟨rfl, rfl⟩

end Go.Proofs.Ytgacbfbjikjanaa
