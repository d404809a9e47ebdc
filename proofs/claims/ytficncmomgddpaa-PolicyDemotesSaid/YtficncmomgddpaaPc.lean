/- Entries, and how they compare. -/
import Derived.Test.YtficncmomgddpaaProg
import Derived.Test.YtficncmomgddpaaCol
import Derived.Test.YtficncmomgddpaaPh
import Derived.WalkKit
import Derived.WalkLawsBesides
import Derived.WalkSpells
import Derived.Below
import Derived.Deep.RegionHeld3
import Derived.Deep.QuietTactic
import Derived.BigQuiet
import Derived.Deep.DeepCutAuto
import Derived.Deep.DeepMust
import Derived.KernelRfl
import Derived.Lib.Hide
import Derived.Outline
import Derived.RegionTactic
import Derived.StillTailTactics
namespace Go.Proofs.Ytficncmomgddpaa
open Go.RowKit Go.Cl
set_option maxRecDepth 100000
set_option linter.unusedVariables false
set_option linter.unusedSimpArgs false

def cset (i : Nat) (u : Value) : Obj → Obj
  | .cells c e f => .cells (c.setIfInBounds i u) e f
  | o => o
theorem cset_cells (i : Nat) (u : Value) (c : Array Value) (e : TypeId) (f : Nat × Nat) : cset i u (.cells c e f) = .cells (c.setIfInBounds i u) e f := rfl
theorem hpA (w : World) (o : Obj) (k : Nat) : hp (w.alloc o) k = if k = w.heap.size then some o else hp w k := by
  show (w.heap.push o)[k]? = _
  rw [Array.getElem?_push]; rfl
theorem hpS (w : World) (g i : Nat) (u : Value) (k : Nat) : hp (w.setCell ⟨g, i, none⟩ u) k = if k = g then (hp w k).map (cset i u) else hp w k := by
  unfold hp
  simp only [World.setCell, Array.getElem?_modify, Option.isSome_none, Bool.false_eq_true, if_false]
  by_cases h : g = k
  · subst h; simp only [if_true]; rfl
  · rw [if_neg h, if_neg (fun e => h e.symm)]
theorem hpD (w : World) (k : Nat) : hp w.drew k = hp w k := rfl
theorem hpDN (w : World) (n k : Nat) : hp (w.drewN n) k = hp w k := rfl
structure En where
  k : ByteArray
  v0 : Bool
  v1 : ByteArray
  l : Int
  hi : Int
  hot : Bool
  st : Int
  ins : Int
def En.cs (e : En) : Array Value := #[.string e.k, .bool e.v0, .string e.v1, .int .i64 e.l, .int .i64 e.hi, .bool e.hot, .int .i64 e.st, .int .i64 e.ins]
def cmpI (a b : Int) : Int := if a < b then -1 else if b < a then 1 else 0
def cmpL (P Q : Nat → Int) : Nat → Nat → Int
  | 0, _ => 0
  | n + 1, i => if cmpI (P i) (Q i) = 0 then cmpL P Q n (i + 1) else cmpI (P i) (Q i)
def NV : Int := 4611686018427387904
def En.r (e : En) : Nat → Int := fun i => if e.hi = NV then (if i = 0 then 1 else if i = 1 then (if e.hot then 1 else 0) else if i = 2 then e.st else e.ins) else (if i = 0 then 0 else if i = 1 then 0 else if i = 2 then e.hi else e.ins)
def En.cmp (a b : En) : Int := cmpL a.r b.r 4 0
set_option maxHeartbeats 1000000 in
theorem c_nan (a : Int) (w : World) : Calls Try.prog 30 #[.int .i64 a] w fun e w' => e = .returned (.bool false) ∧ w = w' := by
  go_enter Try.func30, Try.ntmps30
  go_wp2
  go_ret
  exact ⟨by first | rfl | simp, rfl⟩
set_option maxHeartbeats 1000000 in
theorem c_cmp (a b : Int) (w : World) :
    Calls Try.prog 23 #[.int .i64 a, .int .i64 b] w fun e w' => e = .returned (.int .i64 (cmpI a b)) ∧ w = w' := by
  by_cases h1 : a < b
  · have e1 : cmpI a b = -1 := by unfold cmpI; rw [if_pos h1]
    have E1 := Lib.hid e1; clear e1
    go_enter Try.func23, Try.ntmps23
    go_wp2_with (go_at_call 30; (with_reducible refine (c_nan _ _).mono ?_); rintro e w1 ⟨rfl, rfl⟩)
    go_ret
    exact ⟨by rw [E1.out]; rfl, rfl⟩
  by_cases h2 : b < a
  · have e1 : cmpI a b = 1 := by unfold cmpI; rw [if_neg h1, if_pos h2]
    have E1 := Lib.hid e1; clear e1
    go_enter Try.func23, Try.ntmps23
    go_wp2_with (go_at_call 30; (with_reducible refine (c_nan _ _).mono ?_); rintro e w1 ⟨rfl, rfl⟩)
    go_ret
    exact ⟨by rw [E1.out]; rfl, rfl⟩
  · have e1 : cmpI a b = 0 := by unfold cmpI; rw [if_neg h1, if_neg h2]
    have E1 := Lib.hid e1; clear e1
    go_enter Try.func23, Try.ntmps23
    go_wp2_with (go_at_call 30; (with_reducible refine (c_nan _ _).mono ?_); rintro e w1 ⟨rfl, rfl⟩)
    go_ret
    exact ⟨by rw [E1.out]; rfl, rfl⟩
set_option maxHeartbeats 1000000 in
theorem c_rank (e : En) (w : World) :
    Calls Try.prog 26 #[.agg e.cs] w fun r w' => r = .returned (.agg #[.int .i64 (e.r 0), .int .i64 (e.r 1), .int .i64 (e.r 2), .int .i64 (e.r 3)]) ∧ Below w.heap.size w w' := by
  obtain ⟨k, v0, v1, l, hi, hot, st, ins⟩ := e
  show Calls Try.prog 26 #[.agg #[.string k, .bool v0, .string v1, .int .i64 l, .int .i64 hi, .bool hot, .int .i64 st, .int .i64 ins]] w _
  by_cases hn : hi = NV
  · have r0 : (En.mk k v0 v1 l hi hot st ins).r 0 = 1 := by unfold En.r; simp [hn]
    have r1 : (En.mk k v0 v1 l hi hot st ins).r 1 = if hot then 1 else 0 := by unfold En.r; simp [hn]
    have r2 : (En.mk k v0 v1 l hi hot st ins).r 2 = st := by unfold En.r; simp [hn]
    have r3 : (En.mk k v0 v1 l hi hot st ins).r 3 = ins := by unfold En.r; simp [hn]
    rw [r0, r1, r2, r3]; clear r0 r1 r2 r3
    have b1 : (hi != 4611686018427387904) = false := by rw [hn]; simp [NV]
    clear hn
    cases hot
    · rw [if_neg (by simp)]
      go_enter Try.func26, Try.ntmps26
      go_wp2
      refine bodyPost_ret (v := .agg #[.int .i64 1, .int .i64 0, .int .i64 st, .int .i64 ins]) (by simp [results, Try.results26, go_sem, *]; done) rfl ⟨rfl, by (repeat (first | (with_reducible assumption) | (with_reducible exact Below.refl _ _) | (with_reducible refine below_set ?_ (by first | assumption | (simp; done) | (simp; omega) | omega) _) | (with_reducible apply below_alloc) | (with_reducible apply below_drew) | (with_reducible apply below_drewN) | (with_reducible refine below_call ?_ (by assumption))))⟩
    · rw [if_pos rfl]
      go_enter Try.func26, Try.ntmps26
      go_wp2
      refine bodyPost_ret (v := .agg #[.int .i64 1, .int .i64 1, .int .i64 st, .int .i64 ins]) (by simp [results, Try.results26, go_sem, *]; done) rfl ⟨rfl, by (repeat (first | (with_reducible assumption) | (with_reducible exact Below.refl _ _) | (with_reducible refine below_set ?_ (by first | assumption | (simp; done) | (simp; omega) | omega) _) | (with_reducible apply below_alloc) | (with_reducible apply below_drew) | (with_reducible apply below_drewN) | (with_reducible refine below_call ?_ (by assumption))))⟩
  · have r0 : (En.mk k v0 v1 l hi hot st ins).r 0 = 0 := by unfold En.r; simp [hn]
    have r1 : (En.mk k v0 v1 l hi hot st ins).r 1 = 0 := by unfold En.r; simp [hn]
    have r2 : (En.mk k v0 v1 l hi hot st ins).r 2 = hi := by unfold En.r; simp [hn]
    have r3 : (En.mk k v0 v1 l hi hot st ins).r 3 = ins := by unfold En.r; simp [hn]
    rw [r0, r1, r2, r3]; clear r0 r1 r2 r3
    have b1 : (hi != 4611686018427387904) = true := by simpa [NV] using hn
    clear hn
    go_enter Try.func26, Try.ntmps26
    go_wp2
    refine bodyPost_ret (v := .agg #[.int .i64 0, .int .i64 0, .int .i64 hi, .int .i64 ins]) (by simp [results, Try.results26, go_sem, *]; done) rfl ⟨rfl, by (repeat (first | (with_reducible assumption) | (with_reducible exact Below.refl _ _) | (with_reducible refine below_set ?_ (by first | assumption | (simp; done) | (simp; omega) | omega) _) | (with_reducible apply below_alloc) | (with_reducible apply below_drew) | (with_reducible apply below_drewN) | (with_reducible refine below_call ?_ (by assumption))))⟩
set_option maxHeartbeats 1000000 in
theorem c_lex (P Q : Nat → Int) (x y : Nat) (w : World) (hx : ∀ i, i < 4 → w.cell? ⟨x, i, none⟩ = some (.int .i64 (P i))) (hy : ∀ i, i < 4 → w.cell? ⟨y, i, none⟩ = some (.int .i64 (Q i))) :
    Calls Try.prog 27 #[.slice (some ⟨x, 0, none⟩) 4 4, .slice (some ⟨y, 0, none⟩) 4 4] w fun e w' => e = .returned (.int .i64 (cmpL P Q 4 0)) ∧ w = w' := by
  have HX := Lib.hid hx; have HY := Lib.hid hy; clear hx hy
  go_enter Try.func27, Try.ntmps27
  go_wp2
  go_loop [11] (fun z => ∃ i : Nat, z = .int .i64 i ∧ i ≤ 4 ∧ cmpL P Q (4 - i) i = cmpL P Q 4 0) (fun z => 4 - (intOf z).toNat)
  case atStart => exact ⟨0, rfl, by omega, rfl⟩
  case round =>
    obtain ⟨i, rfl, hi, hr⟩ := hrel
    have HR := Lib.hid hr; clear hr
    by_cases hlt : i < 4
    · have b1 : (i : Int) < 4 := by omega
      have b2 : ¬ (4 : Int) ≤ (i : Int) := by omega
      have cx := HX.out i hlt
      have cy := HY.out i hlt
      have hs : cmpL P Q (4 - i) i = if cmpI (P i) (Q i) = 0 then cmpL P Q (4 - (i + 1)) (i + 1) else cmpI (P i) (Q i) := by
        rw [show 4 - i = (4 - (i + 1)) + 1 by omega]; rfl
      have HST := Lib.hid hs; clear hs
      by_cases hc : cmpI (P i) (Q i) = 0
      · have HC := Lib.hid hc
        have b3 : (cmpI (P i) (Q i) != 0) = false := by simpa using hc
        have w1 : IntKind.i64.wrap ((i : Int) + 1) = (i : Int) + 1 := IntWalk.i64_in _ (by omega)
        clear hc
        go_wp2_with (go_at_call 23; (with_reducible refine (c_cmp _ _ _).mono ?_); rintro e w1 ⟨rfl, rfl⟩)
        go_round
        case rel => exact ⟨i + 1, by go_num, by omega, by rw [← HR.out, HST.out, if_pos HC.out]⟩
        case measure => simp [intOf]; omega
      · have HC := Lib.hid hc
        have b3 : (cmpI (P i) (Q i) != 0) = true := by simpa using hc
        clear hc
        go_wp2_with (go_at_call 23; (with_reducible refine (c_cmp _ _ _).mono ?_); rintro e w1 ⟨rfl, rfl⟩)
        go_ret
        exact ⟨by rw [← HR.out, HST.out, if_neg HC.out]; rfl, rfl⟩
    · have hi4 : i = 4 := by omega
      have H4 := Lib.hid hi4; clear hi4
      have b1 : ¬ ((i : Int) < 4) := by omega
      go_wp2
      go_ret
      exact ⟨by rw [← HR.out, H4.out]; rfl, rfl⟩

theorem c_lex' (P Q : Nat → Int) (x y : Nat) (w : World) (hx : hp w x = some (.cells #[.int .i64 (P 0), .int .i64 (P 1), .int .i64 (P 2), .int .i64 (P 3)] 48 (0, 0))) (hy : hp w y = some (.cells #[.int .i64 (Q 0), .int .i64 (Q 1), .int .i64 (Q 2), .int .i64 (Q 3)] 48 (0, 0))) :
    Calls Try.prog 27 #[.slice (some ⟨x, 0, none⟩) 4 4, .slice (some ⟨y, 0, none⟩) 4 4] w fun e w' => e = .returned (.int .i64 (cmpL P Q 4 0)) ∧ w = w' := by
  refine c_lex P Q x y w (fun i hi => ?_) (fun i hi => ?_)
  · rw [hp_cell hx]
    rcases (by omega : i = 0 ∨ i = 1 ∨ i = 2 ∨ i = 3) with rfl | rfl | rfl | rfl <;> rfl
  · rw [hp_cell hy]
    rcases (by omega : i = 0 ∨ i = 1 ∨ i = 2 ∨ i = 3) with rfl | rfl | rfl | rfl <;> rfl
set_option maxHeartbeats 4000000 in
theorem c_compare (e f : En) (w : World) :
    Calls Try.prog 19 #[.agg e.cs, .agg f.cs] w fun r w' => r = .returned (.int .i64 (e.cmp f)) ∧ Below w.heap.size w w' := by
  have hE : ∀ w, Calls Try.prog 26 #[.agg e.cs] w fun r w' => r = .returned (.agg #[.int .i64 (e.r 0), .int .i64 (e.r 1), .int .i64 (e.r 2), .int .i64 (e.r 3)]) ∧ Below w.heap.size w w' := c_rank e
  have hF : ∀ w, Calls Try.prog 26 #[.agg f.cs] w fun r w' => r = .returned (.agg #[.int .i64 (f.r 0), .int .i64 (f.r 1), .int .i64 (f.r 2), .int .i64 (f.r 3)]) ∧ Below w.heap.size w w' := c_rank f
  unfold En.cmp
  generalize e.r = P at *
  generalize f.r = Q at *
  obtain ⟨k, v0, v1, l, hi, hot, st, ins⟩ := e
  obtain ⟨k', v0', v1', l', hi', hot', st', ins'⟩ := f
  replace hE : ∀ w, Calls Try.prog 26 #[.agg #[.string k, .bool v0, .string v1, .int .i64 l, .int .i64 hi, .bool hot, .int .i64 st, .int .i64 ins]] w fun r w' => r = .returned (.agg #[.int .i64 (P 0), .int .i64 (P 1), .int .i64 (P 2), .int .i64 (P 3)]) ∧ Below w.heap.size w w' := hE
  replace hF : ∀ w, Calls Try.prog 26 #[.agg #[.string k', .bool v0', .string v1', .int .i64 l', .int .i64 hi', .bool hot', .int .i64 st', .int .i64 ins']] w fun r w' => r = .returned (.agg #[.int .i64 (Q 0), .int .i64 (Q 1), .int .i64 (Q 2), .int .i64 (Q 3)]) ∧ Below w.heap.size w w' := hF
  show Calls Try.prog 19 #[.agg #[.string k, .bool v0, .string v1, .int .i64 l, .int .i64 hi, .bool hot, .int .i64 st, .int .i64 ins], .agg #[.string k', .bool v0', .string v1', .int .i64 l', .int .i64 hi', .bool hot', .int .i64 st', .int .i64 ins']] w _
  have HE := Lib.hid hE; have HF := Lib.hid hF; clear hE hF
  go_enter Try.func19, Try.ntmps19
  go_upto_region 1 with fail
  refine Ph.at_world ?_; intro W1 hW
  have k0 : hp W1 w.heap.size = some (.cells #[.string k, .bool v0, .string v1, .int .i64 l, .int .i64 hi, .bool hot, .int .i64 st, .int .i64 ins] 28 (0, 0)) := by rw [hW]; simp [hpA]
  have k1 : hp W1 (w.heap.size + 1) = some (.cells #[.string k', .bool v0', .string v1', .int .i64 l', .int .i64 hi', .bool hot', .int .i64 st', .int .i64 ins'] 28 (0, 0)) := by rw [hW]; simp [hpA]
  have HB : Below w.heap.size w W1 := by rw [hW]; exact below_alloc (below_alloc (Below.refl _ _) _) _
  clear hW
  refine Ph.wp_region_gr 4 6 [] (by kernel_rfl) (by kernel_rfl) (fun _ d _ _ _ h => by cases d <;> exact h) ?_
  simp only [List.take_succ_cons, List.take_zero, List.drop_succ_cons, List.drop_zero]
  repeat ((first | (apply Ph.wpG_op rfl; (focus (intro w1 hS0; have c0 := hp_cell (hp_below hS0 k0); have c1 := hp_cell (hp_below hS0 k1); go_simp; first | exact rfl | exact ⟨rfl, Below.refl _ _⟩ | ((with_reducible refine (HE.out _).mono ?_); rintro e w2 ⟨rfl, hb⟩; exact ⟨rfl, hb⟩) | ((with_reducible refine (HF.out _).mono ?_); rintro e w2 ⟨rfl, hb⟩; exact ⟨rfl, hb⟩))))); simp only [List.tail_cons, List.tail_nil, Act.put, List.setIfInBounds_toArray, List.set_cons_zero, List.set_cons_succ])
  refine Ph.wpG_nil ?_
  apply Ph.wpAl_op (fun g => .pointer (some ⟨g, 0, none⟩)) rfl; (focus (intro w1; go_simp; exact rfl))
  intro x5; simp only [List.tail_cons, List.tail_nil, Act.put, List.setIfInBounds_toArray, List.set_cons_zero, List.set_cons_succ]
  apply Ph.wpAl_op (fun g => .pointer (some ⟨g, 0, none⟩)) rfl; (focus (intro w1; go_simp; exact rfl))
  intro x6; simp only [List.tail_cons, List.tail_nil, Act.put, List.setIfInBounds_toArray, List.set_cons_zero, List.set_cons_succ]
  refine Ph.wpAl_nil ?_; intro w2 hS hgs hne
  simp only [List.nil_append, List.cons_append, List.forall_mem_cons, List.pairwise_cons, Prod.mk.injEq] at hgs hne
  obtain ⟨⟨bx5, kx5⟩, ⟨bx6, kx6⟩, _⟩ := hgs
  have n56 : x5 ≠ x6 := by simp at hne; first | exact hne | exact hne.1 | (intro e; subst e; simp at hne)
  have n65 := n56.symm
  clear hne
  replace kx5 : hp w2 x5 = some (.cells #[.int .i64 0, .int .i64 0, .int .i64 0, .int .i64 0] 48 (0, 0)) := kx5
  replace kx6 : hp w2 x6 = some (.cells #[.int .i64 0, .int .i64 0, .int .i64 0, .int .i64 0] 48 (0, 0)) := kx6
  have c5 := hp_cell kx5; have r5 := hp_free kx5
  have c6 := hp_cell kx6; have r6 := hp_free kx6
  go_wp2
  refine Ph.at_world ?_; intro W7 hW
  have HZ : Below W1.heap.size W1 W7 := by
    rw [hW]; exact by (repeat (first | (with_reducible assumption) | (with_reducible exact Below.refl _ _) | (with_reducible refine below_set ?_ (by first | assumption | (simp; done) | (simp; omega) | omega) _) | (with_reducible apply below_alloc) | (with_reducible apply below_drew) | (with_reducible apply below_drewN) | (with_reducible refine below_call ?_ (by assumption))))
  have y5 : hp W7 x5 = some (.cells #[.int .i64 (P 0), .int .i64 (P 1), .int .i64 (P 2), .int .i64 (P 3)] 48 (0, 0)) := by rw [hW]; simp [hpS, cset_cells, hpD, kx5, kx6, n56, n65]
  have y6 : hp W7 x6 = some (.cells #[.int .i64 (Q 0), .int .i64 (Q 1), .int .i64 (Q 2), .int .i64 (Q 3)] 48 (0, 0)) := by rw [hW]; simp [hpS, cset_cells, hpD, kx5, kx6, n56, n65]
  replace HB := below_call HB HZ
  clear hW HZ kx5 kx6 c5 c6 r5 r6 hS k0 k1 n56 n65
  refine Ph.region_at (by kernel_rfl) ?_
  refine Ph.at_quiet 4 (by kernel_rfl) ?_
  simp only [List.take_succ_cons, List.take_zero, List.drop_succ_cons, List.drop_zero]
  repeat ((first | (apply Ph.wpPh_g; (focus (intro w1 hS0; have z5 := hp_below hS0 (show hp W7.drew x5 = _ from y5); have z6 := hp_below hS0 (show hp W7.drew x6 = _ from y6); go_simp; first | exact rfl | exact ⟨rfl, Below.refl _ _⟩ | (((with_reducible refine (c_lex' P Q x5 x6 _ z5 z6).mono ?_); rintro e w2 ⟨rfl, rfl⟩; exact ⟨rfl, Below.refl _ _⟩)))))); simp only [Act.put, List.setIfInBounds_toArray, List.set_cons_zero, List.set_cons_succ])
  refine Ph.wpPh_nil ?_; intro w9 hS9
  refine Ph.at_end (by simp) ?_
  replace HB := below_call (below_drew HB) hS9
  go_wp2
  go_ret
  exact ⟨rfl, HB⟩
end Go.Proofs.Ytficncmomgddpaa
