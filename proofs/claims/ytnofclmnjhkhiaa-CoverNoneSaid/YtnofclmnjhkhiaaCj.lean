/- listed: the spans of a cover. -/
import Derived.Test.YtnofclmnjhkhiaaCi
import Derived.Test.YtnofclmnjhkhiaaRd
import Derived.RangeFuncNested
import Derived.RangeFuncBound
import Derived.RangeFuncCalls
import Derived.RangeFuncLeaves
import Derived.Shelf.Abstract
import Derived.Shelf.RegionOpen
import Derived.OwnWalkIn
import Derived.TacticsInMore
import Derived.LoopNIn
import Derived.LoopIn
import Derived.Sort.CutIn
import Derived.Maps.AppendAt
import Derived.WalkKit
import Derived.WalkLawsBesides
import Derived.WalkSpells
import Derived.Below
import Derived.Deep.RegionHeld3
import Derived.Deep.QuietTactic
import Derived.BigQuiet
import Derived.Deep.DeepCutAuto
import Derived.Deep.DeepMust
import Derived.KernelRfl
import Derived.Lib.Hide
import Derived.Outline
import Derived.RegionTactic
import Derived.StillTailTactics
namespace Go.Proofs.Ytnofclmnjhkhiaa
open Go.RowKit Go.Cl Go.Cv
set_option maxRecDepth 100000
set_option linter.unusedVariables false
set_option linter.unusedSimpArgs false
open Go.Shelf
attribute [local go_sem] Oper.semAt_some

theorem run_equalIn_func_nil {P : Program} (w : World) (d : Nat) (t : TypeId) (ps rs : Array TypeId) (va : Bool) (f : Fn) (a b : Array Value) (h : P.underlying t = some (.func ps rs va)) : (Op.equalIn (d + 1) t (.func f a b) .nilFunc).run P w = .ok false w := by
  simp [Op.equalIn, run_underlying h]
theorem run_eql_func_nil {P : Program} (w : World) (t : TypeId) (ps rs : Array TypeId) (va : Bool) (f : Fn) (a b : Array Value) (h : P.underlying t = some (.func ps rs va)) : (binOp .eql t (.func f a b) .nilFunc).run P w = .ok (.bool false) w := by
  simp only [binOp]
  simp [Op.equal, Op.maxDepth, run_equalIn_func_nil w 9999 t ps rs va f a b h]
/-- Block B holds these cells. -/
theorem hp_own {β : Type} (B : Nat) (cs : Array Value) (t : TypeId) (fr : Nat × Nat) : Own (fun (_ : β) W => hp W B = some (.cells cs t fr)) := fun s X Y row hs hg hrow =>
  hp_grown hs hg (fun e' => by obtain ⟨o, ho, hc⟩ := hrow B e'.symm; rw [show X.heap[B]? = _ from hs] at ho; cases ho; cases hc)
/-- An append to the hub's list, of another type, leaves the spans' blocks. -/
theorem kpH_app {n1 o base m size : Nat} {W W' : World} {t e : TypeId} {v v' : Value} {ys : List Value} (hv : Boxed W o t v) (hv' : Boxed W' o t v') (hr' : W'.ownsRow base e size v' m ys) (he : e ≠ 30) (hs : W.heap.size ≤ W'.heap.size)
    (hk : ∀ g cs fr, hp W g = some (.cells cs 30 fr) → v.ownBlock ≠ some g → hp W' g = some (.cells cs 30 fr)) : KpH n1 o W W' := by
  refine ⟨hs, fun g cs fr _ h1 h2 => ?_⟩
  have h3 := hk g cs fr h1 (h2 v t (0, 0) hv)
  refine ⟨h3, fun v2 t2 fr2 hv2 hb => ?_⟩
  have e1 : hp W' o = some (.cells #[v'] t (0, 0)) := hv'
  rw [e1] at hv2
  simp at hv2
  obtain ⟨⟨rfl⟩, _⟩ := hv2
  rcases hr'.2 with ⟨rfl, _⟩ | ⟨g', cap, cur, rfl, _, hgb, _⟩
  · simp [Value.ownBlock] at hb
  · obtain rfl : g' = g := by simpa [Value.ownBlock] using hb
    rw [show W'.heap[g']? = _ from h3] at hgb
    simp at hgb
    exact he hgb.2.1.symm
set_option maxHeartbeats 4000000 in
theorem c_listed (w : World) (pv : Option Addr) (L : List Sp) (h : CvN w pv L) (hn : L.length ≤ 8796093022206) :
    Calls Try.prog 24 #[.pointer pv] w fun e w' => ∃ v, e = .returned v ∧ w'.ownsRow w.heap.size 53 2 v L.length (L.flatMap encS) ∧ Below w.heap.size w w' := by
  obtain ⟨i0, hi0, hz0, hz1, hz2⟩ := info_parts Try.info53
  have HZ := Lib.hid (And.intro hi0 (And.intro hz0 (And.intro hz1 hz2)))
  clear hi0 hz0 hz1 hz2
  have qf : ∀ (w : World) (f : Fn) (a b : Array Value), (binOp .eql 50 (.func f a b) .nilFunc).run Try.prog w = .ok (.bool false) w := fun w f a b => run_eql_func_nil w 50 _ _ _ f a b Try.underlying50
  refine (callsIn_wide (n := 6)).1 ?_
  refine callsIn_of_wp_marks Try.func24 rfl trivial ?_ rfl
  simp only [Try.ntmps24, List.size_toArray, List.length_cons, List.length_nil, Nat.reduceAdd, Nat.reduceSub, Array.replicate_succ, Array.replicate_zero, List.push_toArray, List.append_toArray, List.nil_append, List.cons_append]
  gi_wp2_with (refine ⟨trivial, ?_⟩; gi_at_call 26; refine (callsIn_wide.2 (c_allv _ pv)).mono ?_; rintro e w' ⟨rfl, rfl⟩)
  have bO := (Boxed.new w 36 (.slice none 0 0)).alloc (.cells #[.pointer pv] 24)
  have bN := Boxed.new (w.alloc (.cells #[.slice none 0 0] 36)) 24 (.pointer pv)
  rw [World.size_alloc] at bN
  have hB0 : Below w.heap.size w ((w.alloc (.cells #[.slice none 0 0] 36)).alloc (.cells #[.pointer pv] 24)) := ((Below.refl _ w).alloc (Nat.le_refl _) _).alloc (by simp) _
  have hsz : ((w.alloc (.cells #[.slice none 0 0] 36)).alloc (.cells #[.pointer pv] 24)).heap.size = w.heap.size + 2 := by simp
  obtain ⟨W0, hW0⟩ : ∃ W0, (w.alloc (.cells #[.slice none 0 0] 36)).alloc (.cells #[.pointer pv] 24) = W0 := ⟨_, rfl⟩
  rw [hW0] at bO bN hB0 hsz ⊢
  clear hW0
  refine wpIn_rangeFunc_ownH (α := Sp) rfl (by omega) (gf := 48) (lb := #[.pointer (some ⟨w.heap.size + 1, 0, none⟩)]) rfl trivial (enters_of Try.func48 (by kernel_rfl) rfl)
    (all_stops (6 - 1) (by omega) (w.heap.size + 1) W0.heap.size w.heap.size L hn W0 pv (by omega) bN.cell (h.below hB0) (by omega) (Nat.le_refl _) (fun v t fr hv g hg => by
      have e1 : hp W0 w.heap.size = some (.cells #[.slice none 0 0] 36 (0, 0)) := bO
      rw [e1] at hv
      simp at hv
      obtain ⟨⟨rfl⟩, _⟩ := hv
      simp [Value.ownBlock] at hg)) kpH_t (kpH_b (by omega)) (Below.refl _ _) (fun _ => rfl)
    (fun pre W => (∃ v, Boxed W w.heap.size 36 v ∧ W.ownsRow w.heap.size 53 2 v pre.length (pre.flatMap encS) ∧ True) ∧ (Boxed W (w.heap.size + 1) 24 (.pointer pv) ∧ Below w.heap.size w W))
    (fun _ _ _ => False)
    (OwnFrom.and (Own.from (holdsRow_own w.heap.size w.heap.size 36 53 2 (fun (pre : List Sp) => pre.length) (fun (pre : List Sp) => pre.flatMap encS) (fun _ _ => True)) _) (OwnFrom.and (Own.from (boxed_own _ _ _) _) (ownFrom_below (Nat.le_refl _) (by omega))))
    (fun _ _ _ _ _ hs _ _ => hs)
    ⟨⟨_, bO, World.ownsRow_nil _ _ _ _, trivial⟩, bN, hB0⟩
    (fun x a' W => ∃ Bx, w.heap.size + 1 < Bx ∧ hp W Bx = some (.cells #[.int .i64 x.1, .int .i64 x.2] 30 (0, 0)) ∧ a' = { tmps := #[.pointer pv, undef, .slice none 0 0, .pointer (some ⟨w.heap.size, 0, none⟩), .func (.func 48) #[] #[.pointer (some ⟨w.heap.size + 1, 0, none⟩)], .pointer (some ⟨Bx, 0, none⟩), .pointer pv, .func (.func 48) #[] #[.pointer (some ⟨w.heap.size + 1, 0, none⟩)], .func (.func 48) #[] #[.pointer (some ⟨w.heap.size + 1, 0, none⟩)], .bool false, undef, undef, .func (.func 48) #[] #[.pointer (some ⟨w.heap.size + 1, 0, none⟩)], .agg #[.int .i64 x.1, .int .i64 x.2], undef, undef, undef, undef, undef, undef, undef, undef, undef], defers := [] })
    (fun x a' _ X Y row hs hg hr => by obtain ⟨Bx, h1, h2, h3⟩ := hs; exact ⟨Bx, h1, hp_own Bx _ _ _ () X Y row h2 hg (fun r e => (hr r e).2), h3⟩)
    ?assign ?body ?done ?stop
  case assign =>
    rintro l pre x W K ⟨⟨v, hv, hrow, _⟩, hN1, hB⟩ hK
    gi_wp2
    have hbA : Below W.heap.size W (W.alloc (.cells #[.int .i64 x.1, .int .i64 x.2] 30)) := below_alloc (Below.refl _ _) _
    exact hK _ _ ((KeepsOthers.alloc _ _).from _) (kpH_below hv.lt hbA) ⟨⟨v, hv.alloc _, hrow.alloc _, trivial⟩, hN1.alloc _, hB.alloc hB.size _⟩ ⟨W.heap.size, hN1.lt, hp_alloc_new W _, rfl⟩
  case body =>
    rintro l pre x a' W _ _ ⟨⟨v, hv, hrow, _⟩, hN1, hB⟩ ⟨Bx, hBx, bX, rfl⟩ hlt
    have cO := hv.cell
    have cX := hp_cell bX
    have HROW := Lib.hid (And.intro hrow (And.intro hN1 (And.intro hB hv)))
    have hlp : pre.length < L.length := hlt
    have hsrc := one_srcq (hp_alloc_new W (.cells #[.int .i64 x.1, .int .i64 x.2] 53))
    have HA := Lib.hid (And.intro hsrc (hrow.alloc (.cells #[.int .i64 x.1, .int .i64 x.2] 53)))
    have HBX := Lib.hid (And.intro hBx bX)
    have HL := Lib.hid (And.intro hlp hn)
    obtain ⟨pv5, nv5, cv5, rfl⟩ : ∃ p n c, v = .slice p n c := by
      rcases hrow.2 with ⟨rfl, _⟩ | ⟨g, cap, cur, rfl, _⟩
      · exact ⟨_, _, _, rfl⟩
      · exact ⟨_, _, _, rfl⟩
    clear hsrc hrow hN1 hB hv hBx bX hlt hlp
    gi_wp2_with (gi_at_builtin; refine wpListIn_append_own _ rfl _ _ 36 rfl w.heap.size 53 i0 (.agg #[.int .i64 0, .int .i64 0]) 2 16 Try.underlying36 HZ.out.1 HZ.out.2.1 HZ.out.2.2.1 HZ.out.2.2.2 rfl (by decide) _ _ _ rfl HA.out.2 ⟨W.heap.size, 0, none⟩ 1 1 (encS x) rfl rfl HA.out.1 (encS_ok.one x) (by have := HL.out; unfold maxLen; omega) (by have := HL.out; omega) (by have := HROW.out.2.2.1.size; simp; omega) ?_; intro v' w1 hown' hgrow _; obtain ⟨g', cap', rfl⟩ := ownsRow_succ hown'; obtain ⟨hv1, hv2, hr2, hk2, hb2⟩ := HROW.out.2.2.2.appended (by decide) HROW.out.1 HROW.out.2.2.1.size (Nat.le_refl _) hown' hgrow; have hc1 := hv1.cell; have hf1 := hv1.frozen; have HX := Lib.hid (And.intro hv2 (And.intro hr2 (And.intro hk2 (And.intro hb2 hgrow)))); clear hv1 hv2 hr2 hk2 hb2 hown' hgrow)
    have hX := HX.out
    have hR := HROW.out
    have hgr : ∀ g x, hp W g = some x → g ≠ w.heap.size → (Value.slice pv5 nv5 cv5).ownBlock ≠ some g → hp (w1.setCell ⟨w.heap.size, 0, none⟩ (.slice (some ⟨g', 0, none⟩) (pre.length + 1) cap')) g = some x := fun g x hg h1 h2 =>
      hp_set_ne (hp_grown (hp_alloc_old hg _) hX.2.2.2.2 (fun e => h2 e.symm)) (p := ⟨w.heap.size, 0, none⟩) h1 _
    have hne : (Value.slice pv5 nv5 cv5).ownBlock ≠ some (w.heap.size + 1) := fun e => hR.2.1.not_row (by decide) hR.1 e.symm
    refine ⟨hX.2.2.1.from _, kpH_app hR.2.2.2 hX.1 hX.2.1 (by decide) hX.2.2.2.1.size (fun g cs fr hg hvg => hgr g _ hg (fun e => ?_) hvg), ⟨_, hX.1, ?_, trivial⟩, hgr _ _ hR.2.1 (by omega) hne, hR.2.2.1.trans hX.2.2.2.1⟩
    · subst e
      have e1 : hp W w.heap.size = some (.cells #[.slice pv5 nv5 cv5] 36 (0, 0)) := hR.2.2.2
      rw [e1] at hg
      simp at hg
    · have := hX.2.1
      simp only [List.length_append, List.flatMap_append, List.length_cons, List.length_nil, List.flatMap_cons, List.flatMap_nil, List.append_nil]
      exact this
  case done =>
    rintro D ys W hD rfl ⟨⟨v, hv, hrow, _⟩, hN1, hB⟩ hK
    have cO := hv.cell
    gi_wp2
    refine ⟨by simp, .inl ⟨_, _, rfl, run_takeDeferred hK, ?_⟩⟩
    exact ⟨_, results_tmp rfl _ _ _, v, rfl, ownsRow_putObj hrow _ hK rfl, hB.trans (belowK_b (w := w) (Nat.le_refl _) W D _ _ (by omega) hK rfl rfl)⟩
  case stop =>
    rintro D c pre W _ _ h _
    exact h.elim
end Go.Proofs.Ytnofclmnjhkhiaa
