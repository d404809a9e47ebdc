/- Recent: List, Clone. -/
import Derived.Test.YtgacbfbjikjanaaRec5
import Derived.WalkKit
import Derived.WalkLawsBesides
import Derived.WalkSpells
import Derived.Below
import Derived.Deep.RegionHeld3
import Derived.Deep.QuietTactic
import Derived.BigQuiet
import Derived.Deep.DeepCutAuto
import Derived.Deep.DeepMust
import Derived.KernelRfl
import Derived.Lib.Hide
import Derived.Outline
import Derived.RegionTactic
import Derived.StillTailTactics
namespace Go.Proofs.Ytgacbfbjikjanaa
open Go.RowKit Go.Cl
set_option maxRecDepth 100000
set_option linter.unusedVariables false
set_option linter.unusedSimpArgs false


def LsInv (w : World) (L : List Mk) (u t : Value) (wr : World) : Prop :=
  ∃ (k : Nat) (p : Option Addr) (c : Nat), t = .int .i64 k ∧ k ≤ L.length ∧ u = .slice p k c ∧ Row (paint zc w 1) 1 wr 82 2 (.slice p k c) k ((L.take k).flatMap encM) ∧ Below w.heap.size w wr
set_option maxHeartbeats 1000000 in
theorem rc_list (col : Nat → Nat) (i : Nat) (w : World) (b : Nat) (L : List Mk) (R : Nat) (since last : Int) (h : Rec col i w b L R since last) :
    Calls Try.prog 32 #[.pointer (some ⟨b, 0, none⟩)] w fun e w' => ∃ p c, e = .returned (.slice p L.length c) ∧ Row (paint zc w 1) 1 w' 82 2 (.slice p L.length c) L.length (L.flatMap encM) ∧ Below w.heap.size w w' := by
  obtain ⟨i0, hi, hz0, hz1, hz2⟩ := info_parts Try.info82
  have h0 := h
  obtain ⟨⟨v, X, F, hb, hr, hX, hF, hF0, hLX⟩, hlen, hcap⟩ := h
  have cb := hp_cell hb.hp
  clear hF0 hF hLX hr hX
  go_enter Try.func32, Try.ntmps32
  go_wp2
  go_loopw [3, 4, 11] (fun u _ t wr => LsInv w L u t wr) (fun _ _ t _ => L.length + 1 - (intOf t).toNat)
  case atStart => exact ⟨0, none, 0, rfl, Nat.zero_le _, rfl, (by exact Row.nil'), Below.refl _ _⟩
  case round =>
    obtain ⟨k, p, c, rfl, hk, rfl, hrow, hbel⟩ := hrel
    clear cb
    by_cases hlt : k < L.length
    · have hat := rc_at col i wr b L R since last (h0.below hbel) k hlt
      have e := Lib.hid (show (L.take (k + 1)).flatMap encM = (L.take k).flatMap encM ++ encM L[k] by rw [List.take_succ_eq_append_getElem hlt, List.flatMap_append]; simp only [List.flatMap_cons, List.flatMap_nil, List.append_nil])
      have hk5 : k ≤ 1024 := by omega
      generalize L[k] = m at *
      go_wp2_with (first | (go_at_call 54; refine hat.mono ?_; rintro e w2 ⟨rfl, hb2⟩; have hrow2 := (hrow.below' hb2).below (below_alloc (Below.refl w2.heap.size w2) (.cells #[.int .i64 m.1, .string m.2] 82)); rw [paint_paint (Nat.le_trans hbel.size hb2.size)] at hrow2) | (at_builtin; refine wpList_append_col rfl (.tmp 14) (.tmp 18) 62 rfl 82 i0 (.agg #[.int .i64 0, .string ⟨#[]⟩]) 2 24 Try.underlying62 hi hz0 hz1 hz2 rfl (by decide) _ k ((L.take k).flatMap encM) rfl hrow2 ⟨w2.heap.size, 0, none⟩ 1 1 (encM m) rfl rfl (two_cells w2 _ _ _) ?c2 ?c3 ?c4 ?k))
      case c2 => exact encM_ok.one _
      case c3 => unfold maxLen; omega
      case c4 => omega
      case k =>
        intro p2 c2 w3 hr3 hC hg3
        have hsz : w.heap.size ≤ w2.heap.size := Nat.le_trans hbel.size hb2.size
        rw [paint_paint (by simp; omega)] at hr3
        have hb3 : Below w.heap.size w w3 := (below_alloc (below_call hbel hb2) _).grown hg3 (by simp; omega) (fun q hq => hrow.new hq)
        go_wp2
        go_roundw
        case rel => exact ⟨k + 1, p2, c2, by go_num, by omega, rfl, by rw [e.out]; exact hr3, hb3⟩
        case measure => simp [intOf]; omega
    · obtain rfl : k = L.length := by omega
      rw [List.take_of_length_le (Nat.le_refl _)] at hrow
      go_wp2
      go_ret
      exact ⟨_, _, rfl, hrow, hbel⟩
/-- slices.Clone: another row with the same, all new. -/
theorem rc_sclone (col : Nat → Nat) (i : Nat) (w : World) (v : Value) (n : Nat) (L : List Mk) (hL : L.length = n) (hr : Row col i w 82 2 v n (L.flatMap encM)) (hn : n ≤ 1000000000000) :
    Calls Try.prog 56 #[v] w fun e w' => ∃ p c, e = .returned (.slice p n c) ∧ Row (paint zc w 1) 1 w' 82 2 (.slice p n c) n (L.flatMap encM) ∧ Below w.heap.size w w' := by
  obtain ⟨i0, hi, hz0, hz1, hz2⟩ := info_parts Try.info82
  rcases hr.own.2 with ⟨rfl, rfl⟩ | ⟨g, c, cur, rfl, _, hg, hnc, hcm, hcs, htk⟩
  · obtain rfl : L = [] := List.eq_nil_of_length_eq_zero hL
    have hnil := fun (W : World) => Lib.run_eql_slice_nil (P := Try.prog) W 62 82 none 0 0 0 0 Try.underlying62
    go_enter Try.func56, Try.ntmps56
    go_wp2
    go_ret
    exact ⟨none, 0, rfl, Row.nil', Below.refl _ _⟩
  · have hs := encM_ok.src (w := w.alloc (.cells #[] 82)) L 0 (hp_alloc_old hg _) (by rw [hL]; exact htk)
    have hnew : Row (paint zc w 1) 1 (w.alloc (.cells #[] 82)) 82 2 (.slice (some ⟨w.heap.size, 0, none⟩) 0 0) 0 [] := ⟨World.ownsRow_made w #[] 0 (Nat.zero_le _) (by unfold maxLen; omega) (by simp), fun g hg => by simp [Value.ownBlock] at hg; subst hg; exact paint_new (Nat.le_refl _)⟩
    have hb := below_alloc (Below.refl w.heap.size w) (.cells #[] 82)
    simp only [Nat.zero_mul, List.drop_zero] at hs
    clear htk
    have hnil := fun (W : World) => Lib.run_eql_slice_nil (P := Try.prog) W 62 82 (some ⟨g, 0, none⟩) n c 0 0 Try.underlying62
    go_enter Try.func56, Try.ntmps56
    go_wp2_with (at_builtin; refine wpList_append_col rfl (.tmp 5) (.tmp 6) 62 rfl 82 i0 (.agg #[.int .i64 0, .string ⟨#[]⟩]) 2 24 Try.underlying62 hi hz0 hz1 hz2 rfl (by decide) _ 0 [] rfl hnew ⟨g, 0, none⟩ n c (L.flatMap encM) rfl (by rw [encM_ok.length, hL]) hs (encM_ok.ones _) ?c3 ?c4 ?k)
    case c3 => unfold maxLen; omega
    case c4 => omega
    case k =>
      intro p' c' w1 hr1 hC hgr
      rw [paint_paint hb.size] at hr1
      try simp only [Nat.zero_add, List.nil_append] at hr1
      try simp only [Nat.zero_add]
      go_wp2
      go_ret
      exact ⟨p', c', rfl, hr1, hb.grown hgr hb.size (fun k hk => by simp [Value.ownBlock] at hk; omega)⟩
theorem rc_clone (col : Nat → Nat) (i : Nat) (w : World) (b : Nat) (L : List Mk) (R : Nat) (since last : Int) (k : Nat) (h : Rec col i w b L R since last) :
    Calls Try.prog 43 #[.pointer (some ⟨b, 0, none⟩)] w fun e w' => ∃ g, e = .returned (.pointer (some ⟨g, 0, none⟩)) ∧ Rec (paint col w k) k w' g L R since last ∧ Below w.heap.size w w' := by
  obtain ⟨⟨v, X, F, hb, hr, hX, hF, hF0, hLX⟩, hlen, hcap⟩ := h
  obtain ⟨p, c, rfl⟩ := hr.form
  have hb1 := hb.hp
  have HF0 := Lib.hid hF0; clear hF0
  have HB := below_alloc (Below.refl w.heap.size w) (.cells #[.slice p R c, .int .i64 F, .int .i64 L.length, .int .i64 since, .int .i64 last] 94)
  have hr2 := (hr.below' HB)
  have cb := hp_cell hb1
  have bl := hp_lt hb1
  go_enter Try.func43, Try.ntmps43
  go_wp2_with (go_at_call 56; refine (rc_sclone col i _ _ R X hX hr2 (by omega)).mono ?_; rintro e w2 ⟨p', c', rfl, hr', hb'⟩; have k2 := hp_below hb' (hp_alloc_new w _); have c2 := hp_cell k2; have f2 := hp_free k2)
  go_ret
  have hsz : w.heap.size ≤ w2.heap.size := Nat.le_trans HB.size hb'.size
  refine ⟨_, rfl, ⟨⟨_, X, F, ⟨hp_set k2 _, paint_new (Nat.le_refl _)⟩, ?_, hX, hF, HF0.out, hLX⟩, hlen, hcap⟩, below_set (below_call HB hb') (Nat.le_refl _) _⟩
  exact (hr'.set (hr'.ne k2 (by decide)) _).recol (fun q hq => paint_new (Nat.le_trans HB.size (hr'.new hq)))

end Go.Proofs.Ytgacbfbjikjanaa
