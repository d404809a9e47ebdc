/- slices.Clone of spans. -/
import Derived.Test.YtnofclmnjhkhiaaCa
import Derived.Test.YtnofclmnjhkhiaaCd
import Derived.Lib.SliceRun
import Derived.WalkKit
import Derived.WalkLawsBesides
import Derived.WalkSpells
import Derived.Below
import Derived.Deep.RegionHeld3
import Derived.Deep.QuietTactic
import Derived.BigQuiet
import Derived.Deep.DeepCutAuto
import Derived.Deep.DeepMust
import Derived.KernelRfl
import Derived.Lib.Hide
import Derived.Outline
import Derived.RegionTactic
import Derived.StillTailTactics
namespace Go.Proofs.Ytnofclmnjhkhiaa
open Go.RowKit Go.Cl Go.Cv
set_option maxRecDepth 100000
set_option linter.unusedVariables false
set_option linter.unusedSimpArgs false

theorem rdl_src {w : World} {a : Addr} {n cp : Nat} {L : List Sp} (h : RdL w (.slice (some a) n cp) L) : ∀ j u, (L.flatMap encS)[j]? = some u → w.cell? (a.add j) = some u := by
  intro j u hj
  have hl : (L.flatMap encS).length = L.length * 2 := encS_ok.length L
  obtain ⟨hjl, hju⟩ := List.getElem?_eq_some_iff.1 hj
  have hk : j / 2 < L.length := by omega
  obtain ⟨b, o, e, h1, h2⟩ := h.at (List.getElem?_eq_getElem hk)
  obtain rfl : a = ⟨b, o, none⟩ := by simpa using e
  rw [Addr.add_lit]
  have ho := encS_ok.get L (j / 2) (j % 2) hk (by omega)
  have hjj : j / 2 * 2 + j % 2 = j := by omega
  rw [hjj, hj] at ho
  rcases Nat.mod_two_eq_zero_or_one j with hm | hm
  · rw [hm] at ho hjj
    have e2 : o + j = o + j / 2 * 2 := by omega
    rw [e2, h1]
    simpa [encS] using ho.symm
  · rw [hm] at ho hjj
    have e2 : o + j = o + j / 2 * 2 + 1 := by omega
    rw [e2, h2]
    simpa [encS] using ho.symm
set_option maxHeartbeats 2000000 in
/-- slices.Clone: a row of its own. -/
theorem c_clone (w : World) (v : Value) (L : List Sp) (h : RdL w v L) (hn : L.length ≤ 8796093022206) :
    Calls Try.prog 49 #[v] w fun e w' => ∃ v', e = .returned v' ∧ Row (paint zc w 1) 1 w' 30 2 v' L.length (L.flatMap encS) ∧ Below w.heap.size w w' := by
  have HV := Lib.hid h
  obtain ⟨p, cp, rfl, hx0⟩ := h
  obtain ⟨n, hnn⟩ : ∃ n, L.length = n := ⟨_, rfl⟩
  rw [hnn] at HV hn ⊢
  have HN := Lib.hid (And.intro hn hnn)
  clear hn hnn
  have q58 : ∀ (w : World) (a : Option Addr) (n c n' c' : Nat), (binOp .eql 58 (.slice a n c) (.slice none n' c')).run Try.prog w = .ok (.bool a.isNone) w := fun w a n c n' c' => Lib.run_eql_slice_nil w _ _ a n c n' c' Try.underlying58
  cases p with
  | none =>
    have hL : L = [] := by
      cases L with
      | nil => rfl
      | cons a M => obtain ⟨b, o, e, _⟩ := hx0 0 a rfl; cases e
    subst hL
    obtain rfl : 0 = n := HN.out.2
    clear hx0
    go_enter Try.func49, Try.ntmps49
    go_wp2
    go_ret
    exact ⟨_, rfl, Row.nil', by (repeat (first | (with_reducible assumption) | (with_reducible exact Below.refl _ _) | (with_reducible refine below_set ?_ (by first | assumption | (simp; done) | (simp; omega) | omega) _) | (with_reducible apply below_alloc) | (with_reducible apply below_drew) | (with_reducible apply below_drewN) | (with_reducible refine below_call ?_ (by assumption))))⟩
  | some a =>
    clear hx0
    obtain ⟨i0, hi0, hz0, hz1, hz2⟩ := info_parts Try.info30
    have HZ := Lib.hid (And.intro hi0 (And.intro hz0 (And.intro hz1 hz2)))
    clear hi0 hz0 hz1 hz2
    have hrow : Row (paint zc w 1) 1 (w.alloc (.cells #[] 30)) 30 2 (.slice (some ⟨w.heap.size, 0, none⟩) 0 0) 0 [] := by
      refine Row.mk' (cur := #[]) (hp_alloc_new w _) (Nat.zero_le _) (by decide) rfl rfl rfl (paint_new (Nat.le_refl _))
    have hb1 : Below w.heap.size w (w.alloc (.cells #[] 30)) := below_alloc (Below.refl _ _) _
    have HR := Lib.hid (And.intro hrow hb1)
    clear hrow hb1
    go_enter Try.func49, Try.ntmps49
    go_wp2_with (at_builtin; refine wpList_append_col rfl (.tmp 5) (.tmp 6) 58 rfl 30 i0 (.agg #[.int .i64 0, .int .i64 0]) 2 16 Try.underlying58 HZ.out.1 HZ.out.2.1 HZ.out.2.2.1 HZ.out.2.2.2 rfl (by decide) _ 0 [] rfl HR.out.1 a n cp (L.flatMap encS) rfl (by rw [encS_ok.length, HN.out.2]) (rdl_src (HV.out.below HR.out.2)) (encS_ok.ones L) ?c3 ?c4 ?kk)
    case c3 => have := HN.out.1; unfold maxLen; omega
    case c4 => have := HN.out.1; omega
    case kk =>
      intro p' c' w1 hr1 hC hg
      rw [paint_paint HR.out.2.size] at hr1
      have HX := Lib.hid (And.intro hr1 (HR.out.2.grown hg HR.out.2.size (fun k hk => by simp [Value.ownBlock] at hk; omega)))
      clear hr1 hC hg
      go_wp2
      go_ret
      exact ⟨_, rfl, HX.out.1, HX.out.2⟩
end Go.Proofs.Ytnofclmnjhkhiaa
