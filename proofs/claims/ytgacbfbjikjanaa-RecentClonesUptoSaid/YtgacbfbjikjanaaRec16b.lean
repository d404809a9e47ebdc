/- Recent: RecentClones: the statement that makes the clones. -/
import Derived.Test.YtgacbfbjikjanaaRec16
import Derived.Test.YtgacbfbjikjanaaGh
import Derived.WalkKit
import Derived.WalkLawsBesides
import Derived.WalkSpells
import Derived.Below
import Derived.Deep.RegionHeld3
import Derived.Deep.QuietTactic
import Derived.BigQuiet
import Derived.Deep.DeepCutAuto
import Derived.Deep.DeepMust
import Derived.KernelRfl
import Derived.Lib.Hide
import Derived.Outline
import Derived.RegionTactic
import Derived.StillTailTactics
namespace Go.Proofs.Ytgacbfbjikjanaa
open Go.RowKit Go.Cl Go.Rdr
set_option maxRecDepth 100000
set_option linter.unusedVariables false
set_option linter.unusedSimpArgs false


/-- What is known, in the statement that makes the clone and its reference, of those operations that are done. -/
structure K20 (B : Nat) (L : List Mk) (R : Nat) (since last : Int) (col : Nat → Nat) (d : Nat → Bool) (us : Nat → Value) (w : World) : Prop where
  k1 : d 1 = true → ∃ g, us 1 = .pointer (some ⟨g, 0, none⟩) ∧ Rec col 3 w g L R since last
  k2 : d 2 = true → ∃ g, us 2 = .slice (some ⟨g, 0, none⟩) 0 0 ∧ B ≤ g ∧ (d 7 = false → Row col 4 w 82 2 (.slice (some ⟨g, 0, none⟩) 0 0) 0 [])
  k7 : d 7 = true → ∃ p c, us 7 = .slice p L.length c ∧ Row col 4 w 82 2 (.slice p L.length c) L.length (L.flatMap encM)
  k20 : d 20 = true → d 7 = true ∧ us 20 = .agg #[us 7, .int .i64 R, .int .i64 since, .int .i64 last]
  k21 : d 21 = true → d 20 = true ∧ ∃ g, us 21 = .pointer (some ⟨g, 0, none⟩) ∧ Blk col 4 w g #[us 7, .int .i64 R, .int .i64 since, .int .i64 last] 65
  k22 : d 22 = true → d 1 = true ∧ us 22 = us 1
  k23 : d 23 = true → d 21 = true ∧ us 23 = us 21
def J20 (w0 : World) (col : Nat → Nat) (L : List Mk) (R : Nat) (since last : Int) (d : Nat → Bool) (us : Nat → Value) (w : World) : Prop := ∃ col', Mv [4] col w0 col' w ∧ K20 w0.heap.size L R since last col' d us w
section
variable {B : Nat} {L : List Mk} {R : Nat} {since last : Int} {col col' : Nat → Nat} {d d' : Nat → Bool} {us : Nat → Value} {w w' : World}
theorem K20.kept (h : K20 B L R since last col d us w) {S : List Nat} (hm : Mv S col w col' w') (h3 : 3 ∉ S) (h4 : 4 ∉ S) : K20 B L R since last col' d us w' where
  k1 := fun hd => by obtain ⟨g, h1, h2⟩ := h.k1 hd; exact ⟨g, h1, h2.kept hm h3⟩
  k2 := fun hd => by obtain ⟨g, h1, h5, h2⟩ := h.k2 hd; exact ⟨g, h1, h5, fun h7 => (h2 h7).kept hm h4⟩
  k7 := fun hd => by obtain ⟨p, c, h1, h2⟩ := h.k7 hd; exact ⟨p, c, h1, h2.kept hm h4⟩
  k20 := h.k20
  k21 := fun hd => by obtain ⟨h0, g, h1, h2⟩ := h.k21 hd; exact ⟨h0, g, h1, h2.kept hm h4⟩
  k22 := h.k22
  k23 := h.k23
theorem K20.same (h : K20 B L R since last col d us w) (hd : ∀ e, e = 1 ∨ e = 2 ∨ e = 7 ∨ e = 20 ∨ e = 21 ∨ e = 22 ∨ e = 23 → d e = d' e) : K20 B L R since last col d' us w := by
  have h1 := hd 1 (by simp); have h2 := hd 2 (by simp); have h7 := hd 7 (by simp); have h20 := hd 20 (by simp); have h21 := hd 21 (by simp); have h22 := hd 22 (by simp); have h23 := hd 23 (by simp)
  obtain ⟨a1, a2, a3, a4, a5, a6, a7⟩ := h
  rw [h1] at a1; rw [h2, h7] at a2; rw [h7] at a3; rw [h20, h7] at a4; rw [h21, h20] at a5; rw [h22, h1] at a6; rw [h23, h21] at a7
  exact ⟨a1, a2, a3, a4, a5, a6, a7⟩
theorem J20.mono (w0 : World) (col : Nat → Nat) (L : List Mk) (R : Nat) (since last : Int) : ∀ d us, Ph.Mono1 (J20 w0 col L R since last d us) := fun d us a a' ⟨c, h1, h2⟩ hb =>
  ⟨c, h1.after_below hb, h2.kept (Mv.of_below (S := []) hb) (by simp) (by simp)⟩
theorem J20.dd (w0 : World) (col : Nat → Nat) (L : List Mk) (R : Nat) (since last : Int) : ∀ d d' us w, (∀ e, Ph.inG [(1, 104), (2, 105), (7, 110), (20, 123), (21, 124), (22, 14), (23, 15)] e = true → d e = d' e) → J20 w0 col L R since last d us w → J20 w0 col L R since last d' us w :=
  fun d d' us w h ⟨c, h1, h2⟩ => ⟨c, h1, h2.same (fun e he => h e (by rcases he with rfl | rfl | rfl | rfl | rfl | rfl | rfl <;> rfl))⟩
/-- Behind op 1. -/
theorem K20.s1 (h : K20 B L R since last col d us w) (h22 : d 22 = false) (g : Nat) (hr : Rec col 3 w g L R since last) : K20 B L R since last col (fun e => if e = 1 then true else d e) (fun j => if j = 1 then .pointer (some ⟨g, 0, none⟩) else us j) w where
  k1 := fun _ => ⟨g, rfl, hr⟩
  k2 := h.k2
  k7 := h.k7
  k20 := h.k20
  k21 := h.k21
  k22 := fun hd => by have hd' : d 22 = true := hd; rw [h22] at hd'; cases hd'
  k23 := h.k23
theorem K20.s2 (h : K20 B L R since last col d us w) (g : Nat) (hBg : B ≤ g) (hr : Row col 4 w 82 2 (.slice (some ⟨g, 0, none⟩) 0 0) 0 []) : K20 B L R since last col (fun e => if e = 2 then true else d e) (fun j => if j = 2 then .slice (some ⟨g, 0, none⟩) 0 0 else us j) w where
  k1 := h.k1
  k2 := fun _ => ⟨g, rfl, hBg, fun _ => hr⟩
  k7 := h.k7
  k20 := h.k20
  k21 := h.k21
  k22 := h.k22
  k23 := h.k23
theorem K20.s20 (h : K20 B L R since last col d us w) (h7 : d 7 = true) (h21 : d 21 = false) : K20 B L R since last col (fun e => if e = 20 then true else d e) (fun j => if j = 20 then .agg #[us 7, .int .i64 R, .int .i64 since, .int .i64 last] else us j) w where
  k1 := h.k1
  k2 := h.k2
  k7 := h.k7
  k20 := fun _ => ⟨h7, rfl⟩
  k21 := fun hd => by have hd' : d 21 = true := hd; rw [h21] at hd'; cases hd'
  k22 := h.k22
  k23 := h.k23
theorem K20.s21 (h : K20 B L R since last col d us w) (h20 : d 20 = true) (h23 : d 23 = false) (g : Nat) (hr : Blk col 4 w g #[us 7, .int .i64 R, .int .i64 since, .int .i64 last] 65) : K20 B L R since last col (fun e => if e = 21 then true else d e) (fun j => if j = 21 then .pointer (some ⟨g, 0, none⟩) else us j) w where
  k1 := h.k1
  k2 := h.k2
  k7 := h.k7
  k20 := h.k20
  k21 := fun _ => ⟨h20, g, rfl, hr⟩
  k22 := h.k22
  k23 := fun hd => by have hd' : d 23 = true := hd; rw [h23] at hd'; cases hd'
theorem K20.s22 (h : K20 B L R since last col d us w) (h1 : d 1 = true) : K20 B L R since last col (fun e => if e = 22 then true else d e) (fun j => if j = 22 then us 1 else us j) w where
  k1 := h.k1
  k2 := h.k2
  k7 := h.k7
  k20 := h.k20
  k21 := h.k21
  k22 := fun _ => ⟨h1, rfl⟩
  k23 := h.k23
theorem K20.s23 (h : K20 B L R since last col d us w) (h21 : d 21 = true) : K20 B L R since last col (fun e => if e = 23 then true else d e) (fun j => if j = 23 then us 21 else us j) w where
  k1 := h.k1
  k2 := h.k2
  k7 := h.k7
  k20 := h.k20
  k21 := h.k21
  k22 := h.k22
  k23 := fun _ => ⟨h21, rfl⟩
/-- Behind op 7: owner 4 has another row. -/
theorem K20.s7 (h : K20 B L R since last col d us w) (hC : Ch col 4 w w') (h2 : d 2 = true) (h20 : d 20 = false) (h21 : d 21 = false) (p : Option Addr) (c : Nat) (hr : Row (paint col w 4) 4 w' 82 2 (.slice p L.length c) L.length (L.flatMap encM)) :
    K20 B L R since last (paint col w 4) (fun e => if e = 7 then true else d e) (fun j => if j = 7 then .slice p L.length c else us j) w' where
  k1 := fun hd => by obtain ⟨g, h1, h3⟩ := h.k1 hd; exact ⟨g, h1, h3.kept hC.mv (by simp)⟩
  k2 := fun hd => by obtain ⟨g, h1, h5, _⟩ := h.k2 h2; exact ⟨g, h1, h5, fun h7 => by simp at h7⟩
  k7 := fun _ => ⟨p, c, rfl, hr⟩
  k20 := fun hd => by have hd' : d 20 = true := hd; rw [h20] at hd'; cases hd'
  k21 := fun hd => by have hd' : d 21 = true := hd; rw [h21] at hd'; cases hd'
  k22 := h.k22
  k23 := h.k23
theorem K20.zero : K20 B L R since last col (fun _ => false) us w := ⟨fun h => by simp at h, fun h => by simp at h, fun h => by simp at h, fun h => by simp at h, fun h => by simp at h, fun h => by simp at h, fun h => by simp at h⟩
theorem K20.f22 (h : K20 B L R since last col d us w) (h1 : d 1 = false) : d 22 = false := by
  cases hd : d 22 with
  | false => rfl
  | true => rw [(h.k22 hd).1] at h1; cases h1
theorem K20.f20 (h : K20 B L R since last col d us w) (h7 : d 7 = false) : d 20 = false := by
  cases hd : d 20 with
  | false => rfl
  | true => rw [(h.k20 hd).1] at h7; cases h7
theorem K20.f21 (h : K20 B L R since last col d us w) (h20 : d 20 = false) : d 21 = false := by
  cases hd : d 21 with
  | false => rfl
  | true => rw [(h.k21 hd).1] at h20; cases h20
theorem K20.f23 (h : K20 B L R since last col d us w) (h21 : d 21 = false) : d 23 = false := by
  cases hd : d 23 with
  | false => rfl
  | true => rw [(h.k23 hd).1] at h21; cases h21
end

end Go.Proofs.Ytgacbfbjikjanaa
