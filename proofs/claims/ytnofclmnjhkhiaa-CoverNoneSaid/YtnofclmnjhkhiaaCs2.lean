/- Insert, at the end. -/
import Derived.Test.YtnofclmnjhkhiaaCs
import Derived.WalkKit
import Derived.WalkLawsBesides
import Derived.WalkSpells
import Derived.Below
import Derived.Deep.RegionHeld3
import Derived.Deep.QuietTactic
import Derived.BigQuiet
import Derived.Deep.DeepCutAuto
import Derived.Deep.DeepMust
import Derived.KernelRfl
import Derived.Lib.Hide
import Derived.Outline
import Derived.RegionTactic
import Derived.StillTailTactics
namespace Go.Proofs.Ytnofclmnjhkhiaa
open Go.RowKit Go.Cl Go.Cv
set_option maxRecDepth 100000
set_option linter.unusedVariables false
set_option linter.unusedSimpArgs false

set_option maxHeartbeats 2000000 in
/-- Insert, at the end. -/
theorem ins_end (col : Nat → Nat) (i : Nat) (w : World) (L : List Sp) (v : Value) (hr : Row col i w 30 2 v L.length (L.flatMap encS)) (hn : L.length ≤ 8796093022206) (s : Sp) (vb vc : Nat) (hvb : hp w vb = some (.cells #[.int .i64 s.1, .int .i64 s.2] 30 (0, 0))) (k : Nat) (hk : k = L.length) :
    Calls Try.prog 54 #[v, .int .i64 k, .slice (some ⟨vb, 0, none⟩) 1 vc] w fun e w' => ∃ v', e = .returned v' ∧ Row (paint col w i) i w' 30 2 v' (L.length + 1) ((L.take k ++ s :: L.drop k).flatMap encS) ∧ Ch col i w w' := by
  obtain ⟨i0, hi0, hz0, hz1, hz2⟩ := info_parts Try.info30
  have HZ := Lib.hid (And.intro hi0 (And.intro hz0 (And.intro hz1 hz2)))
  clear hi0 hz0 hz1 hz2
  obtain ⟨n, hnn⟩ : ∃ n, L.length = n := ⟨_, rfl⟩
  have HK := Lib.hid (And.intro hnn hk)
  rw [hnn] at hr hn hk
  have HN := Lib.hid hn
  have HR := Lib.hid hr
  have HV := Lib.hid hvb
  clear hn hvb hnn
  subst hk
  rcases hr.own.2 with ⟨rfl, hn0⟩ | ⟨g, c, cur, rfl, _, hg, hnc, hcm, hcs, htk⟩
  · subst hn0
    clear hr
    go_enter Try.func54, Try.ntmps54
    go_wp2_with (at_builtin; refine wpList_append_col rfl (.tmp 23) (.tmp 24) 58 rfl 30 i0 (.agg #[.int .i64 0, .int .i64 0]) 2 16 Try.underlying58 HZ.out.1 HZ.out.2.1 HZ.out.2.2.1 HZ.out.2.2.2 rfl (by decide) _ 0 (L.flatMap encS) rfl HR.out ⟨vb, 0, none⟩ 1 vc (encS s) rfl rfl (one_src HV.out) (encS_ok.one s) ?c3 ?c4 ?k)
    case c3 => have := HN.out; unfold maxLen; omega
    case c4 => have := HN.out; omega
    case k =>
      intro p' c' w1 hr1 hC hg
      go_wp2
      go_ret
      exact ⟨_, rfl, by have e := HK.out; rw [e.2, List.take_length, List.drop_length, List.flatMap_append, List.flatMap_cons, List.flatMap_nil, List.append_nil, e.1]; exact hr1, hC⟩
  · have HNC := Lib.hid hnc
    have q1 : (k : Int) ≤ (c : Int) := by omega
    clear hr hg hcm hcs htk hnc
    by_cases hc : c = k
    · subst hc
      go_enter Try.func54, Try.ntmps54
      go_wp2_with (at_builtin; refine wpList_append_col rfl (.tmp 23) (.tmp 24) 58 rfl 30 i0 (.agg #[.int .i64 0, .int .i64 0]) 2 16 Try.underlying58 HZ.out.1 HZ.out.2.1 HZ.out.2.2.1 HZ.out.2.2.2 rfl (by decide) _ c (L.flatMap encS) rfl HR.out ⟨vb, 0, none⟩ 1 vc (encS s) rfl rfl (one_src HV.out) (encS_ok.one s) ?c3 ?c4 ?k)
      case c3 => have := HN.out; unfold maxLen; omega
      case c4 => have := HN.out; omega
      case k =>
        intro p' c' w1 hr1 hC hg
        go_wp2
        go_ret
        exact ⟨_, rfl, by have e := HK.out; rw [e.2, List.take_length, List.drop_length, List.flatMap_append, List.flatMap_cons, List.flatMap_nil, List.append_nil, e.1]; exact hr1, hC⟩
    · go_enter Try.func54, Try.ntmps54
      go_wp2_with (at_builtin; refine wpList_append_col rfl (.tmp 23) (.tmp 24) 58 rfl 30 i0 (.agg #[.int .i64 0, .int .i64 0]) 2 16 Try.underlying58 HZ.out.1 HZ.out.2.1 HZ.out.2.2.1 HZ.out.2.2.2 rfl (by decide) _ k (L.flatMap encS) rfl HR.out ⟨vb, 0, none⟩ 1 vc (encS s) rfl rfl (one_src HV.out) (encS_ok.one s) ?c3 ?c4 ?k)
      case c3 => have := HN.out; unfold maxLen; omega
      case c4 => have := HN.out; omega
      case k =>
        intro p' c' w1 hr1 hC hg
        go_wp2
        go_ret
        exact ⟨_, rfl, by have e := HK.out; rw [e.2, List.take_length, List.drop_length, List.flatMap_append, List.flatMap_cons, List.flatMap_nil, List.append_nil, e.1]; exact hr1, hC⟩
end Go.Proofs.Ytnofclmnjhkhiaa
