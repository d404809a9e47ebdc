/- A reader of bytes: contracts. -/
import Derived.Test.YtiklpifaaogcpaaWa
import Derived.WalkKit
import Derived.WalkLawsBesides
import Derived.WalkSpells
import Derived.Below
import Derived.Deep.RegionHeld3
import Derived.Deep.QuietTactic
import Derived.BigQuiet
import Derived.Deep.DeepCutAuto
import Derived.Deep.DeepMust
import Derived.KernelRfl
import Derived.Lib.Hide
import Derived.Outline
import Derived.RegionTactic
import Derived.StillTailTactics
import Derived.Laws.IdiomStrings
namespace Go.Proofs.Ytiklpifaaogcpaa
open Go.RowKit Go.Cl
set_option maxRecDepth 100000
set_option linter.unusedVariables false
set_option linter.unusedSimpArgs false

open Go.Wr
/-- A reader in memory. -/
structure Rds (T : Nat) (col : Nat → Nat) (i : Nat) (w : World) (b : Nat) (s : ByteArray) (t : St) : Prop where
  blk : Blk col i w b #[.string s, .int .i64 t.at_, .int .i64 t.e] T
  ok : t.Ok s.data.toList
  len : s.size ≤ maxLen
theorem Rds.kept {T : Nat} {col col' : Nat → Nat} {i : Nat} {w w' : World} {b : Nat} {s : ByteArray} {t : St} (h : Rds T col i w b s t) {S : List Nat} (hm : Mv S col w col' w') (hi : i ∉ S) : Rds T col' i w' b s t := ⟨h.blk.kept hm hi, h.ok, h.len⟩
theorem Rds.below {T : Nat} {col : Nat → Nat} {i : Nat} {w w' : World} {b : Nat} {s : ByteArray} {t : St} (h : Rds T col i w b s t) (hb' : Below w.heap.size w w') : Rds T col i w' b s t := h.kept (Mv.of_below (S := []) (col := col) hb') (by simp)
theorem Rds.painted {T : Nat} {col : Nat → Nat} {i : Nat} {w w' : World} {b : Nat} {s : ByteArray} {t : St} (h : Rds T col i w b s t) (hb' : Below w.heap.size w w') : Rds T (paint col w i) i w' b s t := ⟨h.blk.below hb', h.ok, h.len⟩
theorem Rds.at_lt {T : Nat} {col : Nat → Nat} {i : Nat} {w : World} {b : Nat} {s : ByteArray} {t : St} (h : Rds T col i w b s t) : t.at_ ≤ s.size := by have := h.ok.at_; simpa using this
theorem rd_new (col : Nat → Nat) (i : Nat) (w : World) (s : ByteArray) (hs : s.size ≤ maxLen) :
    Calls Try.prog 40 #[.string s] w fun e w' => ∃ b, e = .returned (.pointer (some ⟨b, 0, none⟩)) ∧ Rds 126 (paint col w i) i w' b s ⟨0, 0⟩ ∧ Ch col i w w' := by
  go_enter Try.func40, Try.ntmps40
  go_wp2
  go_ret
  exact ⟨w.heap.size, rfl, ⟨⟨hp_alloc_new w _, paint_new (Nat.le_refl _)⟩, ⟨Nat.zero_le _, .inl rfl⟩, hs⟩, Ch.refl.alloc _⟩
theorem rd_err (col : Nat → Nat) (i : Nat) (w : World) (b : Nat) (s : ByteArray) (t : St) (h : Rds 126 col i w b s t) :
    Calls Try.prog 68 #[.pointer (some ⟨b, 0, none⟩)] w fun e w' => e = .returned (.int .i64 t.e) ∧ w = w' := by
  have cb := hp_cell h.blk.hp
  go_enter Try.func68, Try.ntmps68
  go_wp2
  go_ret
  exact ⟨rfl, rfl⟩
theorem rd_end (col : Nat → Nat) (i : Nat) (w : World) (b : Nat) (s : ByteArray) (t : St) (h : Rds 126 col i w b s t) :
    Calls Try.prog 41 #[.pointer (some ⟨b, 0, none⟩)] w fun e w' => e = .returned (.int .i64 (rEnd s.data.toList t)) ∧ ∃ n, w' = w.drewN n := by
  have hE := rd_err col i w b s t h
  have cb := hp_cell h.blk.hp
  have hl : s.data.toList.length = s.size := by simp
  obtain ⟨a, e⟩ := t
  unfold rEnd
  rw [hl]
  simp only at *
  clear hl
  by_cases h0 : e = 0
  · subst h0
    by_cases h1 : a < s.size
    · rw [if_pos rfl, if_pos h1]
      go_enter Try.func41, Try.ntmps41
      go_wp2_with (go_at_call 68; refine hE.mono ?_; rintro e w' ⟨rfl, rfl⟩)
      go_quiet (fail)
      go_wp2
      go_ret
      exact ⟨rfl, _, rfl⟩
    · rw [if_pos rfl, if_neg h1]
      have h1' : s.size ≤ a := by omega
      go_enter Try.func41, Try.ntmps41
      go_wp2_with (go_at_call 68; refine hE.mono ?_; rintro e w' ⟨rfl, rfl⟩)
      go_quiet (fail)
      go_wp2
      go_ret
      exact ⟨rfl, _, rfl⟩
  · rw [if_neg h0]
    have h0' : ¬ (e : Int) = 0 := by omega
    go_enter Try.func41, Try.ntmps41
    go_wp2_with (go_at_call 68; refine hE.mono ?_; rintro e w' ⟨rfl, rfl⟩)
    go_ret
    exact ⟨rfl, 0, rfl⟩
theorem rd_byte (col : Nat → Nat) (i : Nat) (w : World) (b : Nat) (s : ByteArray) (t : St) (h : Rds 126 col i w b s t) (A : Int) (a : Nat) (hA : A = a) (ha : a < s.size) :
    Calls Try.prog 109 #[.pointer (some ⟨b, 0, none⟩), .int .i64 A] w fun e w' => e = .returned (.tuple #[.int .u8 s[a].toNat, .bool true]) ∧ w' = w := by
  subst hA
  have cb := hp_cell h.blk.hp
  go_enter Try.func109, Try.ntmps109
  go_wp2
  go_ret2
  exact ⟨rfl, rfl⟩
theorem rd_byte_no (col : Nat → Nat) (i : Nat) (w : World) (b : Nat) (s : ByteArray) (t : St) (h : Rds 126 col i w b s t) (A : Int) (a : Nat) (hA : A = a) (ha : s.size ≤ a) :
    Calls Try.prog 109 #[.pointer (some ⟨b, 0, none⟩), .int .i64 A] w fun e w' => e = .returned (.tuple #[.int .u8 0, .bool false]) ∧ w' = w := by
  subst hA
  have cb := hp_cell h.blk.hp
  go_enter Try.func109, Try.ntmps109
  go_wp2
  go_ret2
  exact ⟨rfl, rfl⟩
theorem rd_fail (col : Nat → Nat) (i : Nat) (w : World) (b : Nat) (s : ByteArray) (t : St) (h : Rds 126 col i w b s t) (e : Nat) (he : e = 10 ∨ e = 11) (E : Int) (hE : E = e) :
    Calls Try.prog 108 #[.pointer (some ⟨b, 0, none⟩), .int .i64 E] w fun e' w' => e' = .returned (.tuple #[]) ∧ Rds 126 (paint col w i) i w' b s ⟨t.at_, e⟩ ∧ Ch col i w w' := by
  subst hE
  have cb := hp_cell h.blk.hp
  have fb := hp_free h.blk.hp
  go_enter Try.func108, Try.ntmps108
  go_wp2
  refine bodyPost_end (results_none rfl _ _ _) rfl ?_
  exact ⟨rfl, ⟨⟨hp_set h.blk.hp _, paint_of h.blk.col⟩, ⟨h.ok.at_, .inr he⟩, h.len⟩, Ch.refl.setCell (paint_of h.blk.col) _⟩
end Go.Proofs.Ytiklpifaaogcpaa
