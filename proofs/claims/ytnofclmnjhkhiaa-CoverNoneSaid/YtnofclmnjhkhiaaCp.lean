/- Clone of a cover. -/
import Derived.Test.YtnofclmnjhkhiaaCk
import Derived.Laws.MakeOwn
import Derived.WalkKit
import Derived.WalkLawsBesides
import Derived.WalkSpells
import Derived.Below
import Derived.Deep.RegionHeld3
import Derived.Deep.QuietTactic
import Derived.BigQuiet
import Derived.Deep.DeepCutAuto
import Derived.Deep.DeepMust
import Derived.KernelRfl
import Derived.Lib.Hide
import Derived.Outline
import Derived.RegionTactic
import Derived.StillTailTactics
namespace Go.Proofs.Ytnofclmnjhkhiaa
open Go.RowKit Go.Cl Go.Cv
set_option maxRecDepth 100000
set_option linter.unusedVariables false
set_option linter.unusedSimpArgs false

theorem Try.info30' : (Try.prog.info? 30).map (fun i => (i.zero, i.size, i.bytes)) = some (some (.agg #[.int .i64 0, .int .i64 0]), 2, 16) := Try.info30
theorem make_spans (W : World) (n : Nat) (hn : n ≤ 8796093022206) : (Instr.makeSlice 58 (.int .i64 (n : Int)) (.int .i64 (n : Int))).run Try.prog W = .ok (.slice (some ⟨W.heap.size, 0, none⟩) n n) (W.alloc (.cells (madeCells #[.int .i64 0, .int .i64 0] (n * 2)) 30)) := by
  obtain ⟨i0, hi, hz0, hz1, hz2⟩ := info_parts Try.info30
  have h := run_make (P := Try.prog) W 58 30 i0 _ Try.underlying58 hi hz0 .i64 .i64 n n (by omega) (Int.le_refl _) (by rw [hz2]; omega) (by omega)
  rw [hz1] at h
  simpa [Value.cells] using h
theorem CvO.fresh {col : Nat → Nat} {i : Nat} {w w' : World} {b : Nat} {L : List Sp} (h : CvO (paint zc w 1) 1 w' b L) : w.heap.size ≤ b ∧ CvO (paint col w i) i w' b L := by
  obtain ⟨v, h1, h2⟩ := h.ex
  have hb : w.heap.size ≤ b := by
    have e := h1.col
    rcases Nat.lt_or_ge b w.heap.size with hl | hl
    · rw [paint_old hl] at e; cases e
    · exact hl
  exact ⟨hb, v, ⟨h1.hp, paint_new hb⟩, h2.recol fun g hg => paint_new (h2.new hg)⟩
set_option maxHeartbeats 2000000 in
/-- Clone: a cover of its own. -/
theorem c_cvclone (w : World) (b : Nat) (L : List Sp) (h : CvR w b L) (hn : L.length ≤ 8796093022206) :
    Calls Try.prog 25 #[.pointer (some ⟨b, 0, none⟩)] w fun e w' => ∃ b', e = .returned (.pointer (some ⟨b', 0, none⟩)) ∧ CvO (paint zc w 1) 1 w' b' L ∧ Below w.heap.size w w' := by
  obtain ⟨v, hcv, hv⟩ := h
  have HV := Lib.hid hv
  obtain ⟨p, cp, rfl, hx0⟩ := hv
  obtain ⟨n, hnn⟩ : ∃ n, L.length = n := ⟨_, rfl⟩
  rw [hnn] at HV hn hcv
  obtain ⟨i0, hi0, hz0, hz1, hz2⟩ := info_parts Try.info30
  have hb1 : Below w.heap.size w (w.alloc (.cells (madeCells #[.int .i64 0, .int .i64 0] (n * 2)) 30)) := below_alloc (Below.refl _ _) _
  have hlen : (L.flatMap encS).length = n * 2 := by rw [encS_ok.length, hnn]
  have hms : (madeCells #[.int .i64 0, .int .i64 0] (n * 2)).size = n * 2 := size_madeCells _ _
  obtain ⟨w2, hrun, hN2, hg2⟩ := run_copy_col (P := Try.prog) (w.alloc (.cells (madeCells #[.int .i64 0, .int .i64 0] (n * 2)) 30)) 58 58 3 30 i0 2 Try.underlying58 hi0 hz1 (some ⟨w.heap.size, 0, none⟩) p n n n cp w.heap.size 0 (madeCells #[.int .i64 0, .int .i64 0] (n * 2)) 30 (hp_alloc_new w _) n (by show _ = min _ _; omega) (L.flatMap encS) hlen (fun hpos => by
      refine ⟨rfl, ?_⟩
      obtain ⟨a, ha⟩ := get_lt (L := L) (k := 0) (by omega)
      obtain ⟨g, o, e, _⟩ := hx0 0 a ha
      subst e
      exact ⟨_, rfl, rdl_src (HV.out.below hb1)⟩) (by omega) (encS_ok.ones L)
  have hB2 : Below w.heap.size w w2 := hb1.grown hg2 hb1.size (fun k e => by simp at e; omega)
  have hrow : Row (paint zc w 1) 1 w2 30 2 (.slice (some ⟨w.heap.size, 0, none⟩) n n) n (L.flatMap encS) := by
    refine Row.mk' hN2 (Nat.le_refl _) (by unfold maxLen; omega) ?_ ?_ hlen (paint_new (Nat.le_refl _))
    · rw [List.size_toArray, length_lay (by have e1 : (madeCells #[Value.int IntKind.i64 0, Value.int IntKind.i64 0] (n * 2)).toList.length = n * 2 := hms; show 0 + (L.flatMap encS).length ≤ _; rw [e1, hlen]; omega), Array.length_toList, hms]
    · show (lay _ 0 _).take _ = _
      unfold lay
      rw [List.take_zero, List.nil_append, List.take_append_of_le_length (by omega), List.take_of_length_le (by omega)]
  have HM := Lib.hid (And.intro hrow hB2)
  have hmk := fun W => make_spans W n hn
  have hc1 := cell_below hb1 hcv
  clear hb1 hlen hms hg2 hN2 hx0 hi0 hz0 hz1 hz2 hrow hB2 hn
  have HNN := Lib.hid hnn; clear hnn
  go_enter Try.func25, Try.ntmps25
  go_wp2
  go_ret
  have hB3 : Below w.heap.size w (w2.alloc (.cells #[.slice (some ⟨w.heap.size, 0, none⟩) n n] 60)) := HM.out.2.alloc HM.out.2.size _
  refine ⟨_, rfl, ⟨_, ⟨hp_alloc_new w2 _, paint_new HM.out.2.size⟩, ?_⟩, hB3⟩
  have := HM.out.1.kept (Mv.of_below (S := []) (below_alloc (Below.refl w2.heap.size w2) (.cells #[.slice (some ⟨w.heap.size, 0, none⟩) n n] 60))) (by simp)
  rw [HNN.out]
  exact this
end Go.Proofs.Ytnofclmnjhkhiaa
