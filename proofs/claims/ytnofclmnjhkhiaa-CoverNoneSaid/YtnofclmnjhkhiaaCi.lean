/- All's iterator. -/
import Derived.Test.YtnofclmnjhkhiaaCk
import Derived.Test.YtnofclmnjhkhiaaCl
import Derived.RangeFuncNested
import Derived.RangeFuncBound
import Derived.RangeFuncCalls
import Derived.RangeFuncLeaves
import Derived.Shelf.Abstract
import Derived.Shelf.RegionOpen
import Derived.OwnWalkIn
import Derived.TacticsInMore
import Derived.LoopNIn
import Derived.LoopIn
import Derived.Sort.CutIn
import Derived.Maps.AppendAt
import Derived.WalkKit
import Derived.WalkLawsBesides
import Derived.WalkSpells
import Derived.Below
import Derived.Deep.RegionHeld3
import Derived.Deep.QuietTactic
import Derived.BigQuiet
import Derived.Deep.DeepCutAuto
import Derived.Deep.DeepMust
import Derived.KernelRfl
import Derived.Lib.Hide
import Derived.Outline
import Derived.RegionTactic
import Derived.StillTailTactics
namespace Go.Proofs.Ytnofclmnjhkhiaa
open Go.RowKit Go.Cl Go.Cv
set_option maxRecDepth 100000
set_option linter.unusedVariables false
set_option linter.unusedSimpArgs false
open Go.Shelf
attribute [local go_sem] Oper.semAt_some

/-- The hub's list doesn't lie in block g. -/
def NH (o : Nat) (W : World) (g : Nat) : Prop := ∀ v t fr, hp W o = some (.cells #[v] t fr) → v.ownBlock ≠ some g
theorem NH.same {o g : Nat} {W W' : World} (h : NH o W g) (e : hp W' o = hp W o) : NH o W' g := fun v t fr hv => h v t fr (by rw [← e]; exact hv)
/-- What a round keeps: spans' blocks from n1 on that the hub doesn't hold. -/
def KpH (n1 o : Nat) (W W' : World) : Prop := W.heap.size ≤ W'.heap.size ∧ ∀ g cs fr, n1 ≤ g → hp W g = some (.cells cs 30 fr) → NH o W g → hp W' g = some (.cells cs 30 fr) ∧ NH o W' g
theorem kpH_r (n1 o : Nat) (W : World) : KpH n1 o W W := ⟨Nat.le_refl _, fun _ _ _ _ h k => ⟨h, k⟩⟩
theorem kpH_t {n1 o : Nat} {A B C : World} (h : KpH n1 o A B) (k : KpH n1 o B C) : KpH n1 o A C :=
  ⟨Nat.le_trans h.1 k.1, fun g cs fr hg h1 h2 => by obtain ⟨h3, h4⟩ := h.2 g cs fr hg h1 h2; exact k.2 g cs fr hg h3 h4⟩
theorem kpH_below {n1 o : Nat} {W W' : World} (ho : o < W.heap.size) (hb : Below W.heap.size W W') : KpH n1 o W W' :=
  ⟨hb.size, fun g cs fr _ h1 h2 => ⟨hp_below hb h1, h2.same (hb.block o ho)⟩⟩
theorem kpH_b {n1 o : Nat} {w : World} (ho : o < w.heap.size) (W : World) (l : Nat) (x x' : Obj) (hl : w.heap.size ≤ l) (h : W.heap[l]? = some x) (hc : x.isCells = false) (_ : x.isWalk = false) : KpH n1 o W (W.putObj l x') := by
  have hg := grownBy_putObj' W l x'
  have hlt : l < W.heap.size := (Array.getElem?_eq_some_iff.1 h).1
  refine ⟨hg.size, fun g cs fr _ h1 h2 => ⟨(hg.block g (hp_lt h1) (fun e => ?_)).trans h1, h2.same (hg.block o (by omega) (fun e => by simp at e; omega))⟩⟩
  obtain rfl : g = l := by simpa using e
  rw [show W.heap[g]? = _ from h1] at h
  cases h; cases hc
/-- A list of spans that no round turns. -/
def SfRow (n1 o : Nat) (v : Value) (L : List Sp) (W : World) : Prop := ∃ p cp, v = .slice p L.length cp ∧ ∀ k a, L[k]? = some a → ∃ g cs fr, p = some ⟨g, 0, none⟩ ∧ n1 ≤ g ∧ hp W g = some (.cells cs 30 fr) ∧ cs[k * 2]? = some (.int .i64 a.1) ∧ cs[k * 2 + 1]? = some (.int .i64 a.2) ∧ NH o W g
section
variable {n1 o : Nat} {v : Value} {L : List Sp} {W W' : World}
theorem SfRow.kp (h : SfRow n1 o v L W) (hk : KpH n1 o W W') : SfRow n1 o v L W' := by
  obtain ⟨p, cp, hv, hx⟩ := h
  refine ⟨p, cp, hv, fun k a ha => ?_⟩
  obtain ⟨g, cs, fr, h1, h2, h3, h4, h5, h6⟩ := hx k a ha
  obtain ⟨h7, h8⟩ := hk.2 g cs fr h2 h3 h6
  exact ⟨g, cs, fr, h1, h2, h7, h4, h5, h8⟩
theorem SfRow.at {p : Option Addr} {n cp : Nat} (h : SfRow n1 o (.slice p n cp) L W) {k : Nat} {a : Sp} (hk : L[k]? = some a) : ∃ g, p = some ⟨g, 0, none⟩ ∧ W.cell? ⟨g, k * 2, none⟩ = some (.int .i64 a.1) ∧ W.cell? ⟨g, k * 2 + 1, none⟩ = some (.int .i64 a.2) := by
  obtain ⟨p', cp', e, hx⟩ := h
  simp only [Value.slice.injEq] at e
  obtain ⟨rfl, rfl, rfl⟩ := e
  obtain ⟨g, cs, fr, h1, h2, h3, h4, h5, h6⟩ := hx k a hk
  exact ⟨g, h1, by rw [hp_cell h3]; exact h4, by rw [hp_cell h3]; exact h5⟩
theorem SfRow.of_row {w w' : World} (h : Row (paint zc w 1) 1 w' 30 2 v L.length (L.flatMap encS)) (hn1 : n1 ≤ w.heap.size) (ho : o < w.heap.size) (hnh : ∀ v t fr, hp w o = some (.cells #[v] t fr) → ∀ g, v.ownBlock = some g → g < w.heap.size) (hb : Below w.heap.size w w') : SfRow n1 o v L w' := by
  obtain ⟨p, cp, rfl⟩ := h.form
  refine ⟨p, cp, rfl, fun k a ha => ?_⟩
  obtain ⟨hk, hka⟩ := List.getElem?_eq_some_iff.1 ha
  obtain ⟨g, c, cur, e1, hg, _⟩ := h.pos (by omega)
  simp only [Value.slice.injEq, true_and] at e1
  obtain ⟨rfl, rfl⟩ := e1
  have hge : w.heap.size ≤ g := h.new rfl
  have e0 := encS_ok.get L k 0 hk (by omega)
  have e2 := encS_ok.get L k 1 hk (by omega)
  rw [hka] at e0 e2
  have c0 := h.cell rfl e0
  have c2 := h.cell rfl e2
  rw [hp_cell hg] at c0 c2
  refine ⟨g, cur, _, rfl, by omega, hg, c0, c2, fun v t fr hv hvg => ?_⟩
  have := hnh v t fr (by unfold hp at hv ⊢; rw [← hb.block o ho]; exact hv) g hvg
  omega
end
/-- A cover's pointer, nil too, to be read. -/
def CvN (W : World) (pv : Option Addr) (L : List Sp) : Prop := (pv = none ∧ L = []) ∨ ∃ b, pv = some ⟨b, 0, none⟩ ∧ CvR W b L
theorem CvN.below {W W' : World} {pv : Option Addr} {L : List Sp} (h : CvN W pv L) (hb : Below W.heap.size W W') : CvN W' pv L := by
  rcases h with h | ⟨b, h1, h2⟩
  · exact .inl h
  · exact .inr ⟨b, h1, h2.below hb⟩
theorem c_spansN (w : World) (pv : Option Addr) (L : List Sp) (h : CvN w pv L) : Calls Try.prog 37 #[.pointer pv] w fun e w' => ∃ v, e = .returned v ∧ RdL w v L ∧ w = w' := by
  rcases h with ⟨rfl, rfl⟩ | ⟨b, rfl, v, h1, h2⟩
  · go_enter Try.func37, Try.ntmps37
    go_wp2
    go_ret
    exact ⟨_, rfl, ⟨none, 0, rfl, fun k a ha => by simp at ha⟩, rfl⟩
  · obtain ⟨p, cp, rfl, h3⟩ := id h2
    refine (c_spans w b p L.length cp h1).mono ?_
    rintro e w' ⟨rfl, rfl⟩
    exact ⟨_, rfl, h2, rfl⟩
/-- All: the function value has the box of the receiver. -/
theorem c_allv (w : World) (pv : Option Addr) : Calls Try.prog 26 #[.pointer pv] w fun e w' => e = .returned (.func (.func 48) #[] #[.pointer (some ⟨w.heap.size, 0, none⟩)]) ∧ w' = w.alloc (.cells #[.pointer pv] 24) := by
  go_enter Try.func26, Try.ntmps26
  go_wp2
  go_ret
  exact ⟨rfl, rfl⟩

set_option maxHeartbeats 4000000 in
theorem it48 (n : Nat) (hn1 : 1 ≤ n) (l Bc n1 o : Nat) (L : List Sp) (hn : L.length ≤ 8796093022206) (J Jx : List Sp → World → Prop) (W : World) (pv : Option Addr) (hBc : W.cell? ⟨Bc, 0, none⟩ = some (.pointer pv)) (hL : CvN W pv L)
    (ho : o < W.heap.size) (hn1' : n1 ≤ W.heap.size) (hnh : ∀ v t fr, hp W o = some (.cells #[v] t fr) → ∀ g, v.ownBlock = some g → g < W.heap.size)
    (hJ : ∀ pre A B, J pre A → Below A.heap.size A B → J pre B)
    (hY : ∀ pre x W1, J pre W1 → pre.length < L.length → YieldAt Fence.wide (n - 1) Try.prog l #[.agg #[.int .i64 x.1, .int .i64 x.2]] W1 fun e W' => (e = .returned (.bool true) ∧ J (pre ++ [x]) W' ∧ KpH n1 o W1 W') ∨ (e = .returned (.bool false) ∧ Jx (pre ++ [x]) W'))
    (h0 : J [] W) :
    CallsIn Fence.wide n Try.prog 48 #[.func (.yield l) #[] #[], .pointer (some ⟨Bc, 0, none⟩)] W fun e W' => (∃ v, e = .returned v) ∧ ((∃ ys, ys = L ∧ J ys W') ∨ (∃ pre, pre <+: L ∧ Jx pre W')) := by
  obtain ⟨m, hm⟩ : ∃ m, L.length = m := ⟨_, rfl⟩
  have HS := Lib.hid (c_spansN W pv L hL)
  have HCl := Lib.hid (fun v (hv : RdL W v L) => c_clone W v L hv hn)
  have HRow := Lib.hid (fun v w' (h : Row (paint zc W 1) 1 w' 30 2 v L.length (L.flatMap encS)) (hb : Below W.heap.size W w') => And.intro (SfRow.of_row (n1 := n1) (o := o) h hn1' ho hnh hb) (And.intro (hJ _ _ _ h0 hb) (Nat.lt_of_lt_of_le ho hb.size)))
  have HN := Lib.hid (And.intro hn hm)
  have HJ := Lib.hid hJ
  have HY := Lib.hid hY
  clear hn hJ hY h0 hnh hL ho hn1'
  refine callsIn_of_wp Try.func48 rfl trivial ?_ rfl
  simp only [Try.ntmps48, List.size_toArray, List.length_cons, List.length_nil, Nat.reduceAdd, Nat.reduceSub, Array.replicate_succ, Array.replicate_zero, List.push_toArray, List.append_toArray, List.nil_append, List.cons_append]
  gi_wp2_with (first | (refine ⟨trivial, ?_⟩; gi_at_call 37; refine (callsIn_wide.2 HS.out).mono ?_; rintro e w1 ⟨v1, rfl, hv1, rfl⟩; have HV1 := Lib.hid hv1; clear hv1) | (refine ⟨trivial, ?_⟩; gi_at_call 49; refine (callsIn_wide.2 (HCl.out v1 HV1.out)).mono ?_; rintro e w2 ⟨v7, rfl, hrow, hb2⟩; have H2 := Lib.hid (HRow.out v7 w2 hrow hb2); clear hrow hb2; obtain ⟨p7, c7, rfl, hx7⟩ := id H2.out.1; clear hx7; rw [hm] at H2))
  clear HS HCl HRow HV1 hBc
  gi_loopw [9] (fun t wr => ∃ k : Nat, t = .int .i64 k ∧ k ≤ m ∧ J (L.take k) wr ∧ SfRow n1 o (.slice p7 m c7) L wr ∧ o < wr.heap.size) (fun t _ => m - (intOf t).toNat)
  case atStart => exact ⟨0, rfl, Nat.zero_le _, H2.out.2.1, H2.out.1, H2.out.2.2⟩
  case round =>
    obtain ⟨k, rfl, hk, hj, hsf, ho⟩ := hrel
    have HI := Lib.hid (And.intro hk (And.intro hj (And.intro hsf ho)))
    clear hk hj hsf ho H2
    by_cases hlt : k < m
    · have b1 : (k : Int) < (m : Int) := by omega
      have w1' : IntKind.i64.wrap ((k : Int) + 1) = (k : Int) + 1 := IntWalk.i64_in _ (by have := HN.out; omega)
      obtain ⟨a, ha⟩ := get_lt (L := L) (k := k) (by rw [HN.out.2]; exact hlt)
      obtain ⟨g, rfl, y1, y2⟩ := HI.out.2.2.1.at ha
      have hbA : Below wr.heap.size wr (wr.alloc (.cells #[.int .i64 a.1, .int .i64 a.2] 30)) := below_alloc (Below.refl _ _) _
      have htk : L.take k ++ [a] = L.take (k + 1) := by rw [List.take_add_one, ha]; rfl
      obtain ⟨fn, tmps, assign, body, hy, hR⟩ := HY.out (L.take k) a _ (HJ.out _ _ _ HI.out.2.1 hbA) (by rw [List.length_take, HN.out.2]; omega)
      have HK := Lib.hid (kpH_below (n1 := n1) HI.out.2.2.2 hbA)
      have HT := Lib.hid htk
      clear hbA htk ha
      gi_wp2
      refine hR.mono ?_
      rintro e W3 (⟨rfl, hJ3, hk3⟩ | ⟨rfl, hJx3⟩)
      · have HX := Lib.hid (And.intro hJ3 (kpH_t HK.out hk3))
        clear hR hy hJ3 hk3
        gi_wp2
        go_roundw
        case rel => exact ⟨k + 1, by go_num, by omega, by rw [← HT.out]; exact HX.out.1, HI.out.2.2.1.kp HX.out.2, Nat.lt_of_lt_of_le HI.out.2.2.2 HX.out.2.1⟩
        case measure => simp [intOf]; omega
      · clear hR hy
        gi_wp2
        refine bodyPost_ret (results_none rfl _ _ _) rfl ?_
        exact ⟨⟨_, rfl⟩, .inr ⟨_, by rw [HT.out]; exact List.take_prefix _ _, hJx3⟩⟩
    · obtain rfl : k = m := by have := HI.out.1; omega
      have b1 : ¬ ((k : Int) < (k : Int)) := by omega
      gi_wp2
      go_end0
      exact ⟨⟨_, rfl⟩, .inl (by have := HI.out.2.1; rw [← HN.out.2, List.take_length] at this; exact this)⟩
/-- All hands back a value that goes through the spans in order. -/
theorem all_stops (n : Nat) (hn1 : 1 ≤ n) (Bc n1 o : Nat) (L : List Sp) (hn : L.length ≤ 8796093022206) (w : World) (pv : Option Addr) (hBl : Bc < w.heap.size) (hBc : w.cell? ⟨Bc, 0, none⟩ = some (.pointer pv)) (hL : CvN w pv L)
    (ho : o < w.heap.size) (hn1' : n1 ≤ w.heap.size) (hnh : ∀ v t fr, hp w o = some (.cells #[v] t fr) → ∀ g, v.ownBlock = some g → g < w.heap.size) :
    SeqStopsK Fence.wide n Try.prog 48 #[.pointer (some ⟨Bc, 0, none⟩)] (fun x : Sp => #[Value.agg #[.int .i64 x.1, .int .i64 x.2]]) (KpH n1 o) (fun ys => ys = L) (fun pre => pre <+: L) L.length w := fun l J Jx W hW hJ _ hY h0 =>
  it48 n hn1 l Bc n1 o L hn J Jx W pv (cell_below hW hBc) (hL.below hW) (Nat.lt_of_lt_of_le ho hW.size) (Nat.le_trans hn1' hW.size)
    (fun v t fr hv g hg => Nat.lt_of_lt_of_le (hnh v t fr (by unfold hp at hv ⊢; rw [← hW.block o ho]; exact hv) g hg) hW.size)
    (fun pre A B hj hb => hJ pre A B none hj ⟨hb.os, hb.tape, hb.output, hb.size, fun k hk _ => hb.block k hk⟩ (fun r e => by cases e)) hY h0
end Go.Proofs.Ytnofclmnjhkhiaa
