/- CoverClones: the walk. -/
import Derived.Test.YtnofclmnjhkhiaaCq1
import Derived.Test.YtnofclmnjhkhiaaCl
import Derived.RangeFuncNested
import Derived.RangeFuncBound
import Derived.RangeFuncCalls
import Derived.RangeFuncLeaves
import Derived.Shelf.Abstract
import Derived.Shelf.RegionOpen
import Derived.OwnWalkIn
import Derived.TacticsInMore
import Derived.LoopNIn
import Derived.LoopIn
import Derived.Sort.CutIn
import Derived.Maps.AppendAt
import Derived.WalkKit
import Derived.WalkLawsBesides
import Derived.WalkSpells
import Derived.Below
import Derived.Deep.RegionHeld3
import Derived.Deep.QuietTactic
import Derived.BigQuiet
import Derived.Deep.DeepCutAuto
import Derived.Deep.DeepMust
import Derived.KernelRfl
import Derived.Lib.Hide
import Derived.Outline
import Derived.RegionTactic
import Derived.StillTailTactics
namespace Go.Proofs.Ytnofclmnjhkhiaa
open Go.RowKit Go.Cl Go.Cv
set_option maxRecDepth 100000
set_option linter.unusedVariables false
set_option linter.unusedSimpArgs false
open Go.Shelf
attribute [local go_sem] Oper.semAt_some

theorem cvN_of {W : World} {b : Nat} {L : List Sp} (h : CvR W b L) : CvN W (some ⟨b, 0, none⟩) L := .inr ⟨b, rfl, h⟩
theorem c_listedN (w : World) (pv : Option Addr) (L : List Sp) (n : Nat) (h : CvN w pv L) (hnn : L.length = n) (hn : n ≤ 8796093022206) :
    Calls Try.prog 24 #[.pointer pv] w fun e w' => ∃ p c, e = .returned (.slice p n c) ∧ w'.ownsRow w.heap.size 53 2 (.slice p n c) n (L.flatMap encS) ∧ RdL w' (.slice p n c) L ∧ Below w.heap.size w w' := by
  subst hnn
  refine (c_listed w pv L h hn).mono ?_
  rintro e w' ⟨v, rfl, hr, hb⟩
  have hd := own_rdl hr
  obtain ⟨p, c, rfl, _⟩ := id hd
  exact ⟨p, c, rfl, hr, hd, hb⟩
/-- The boxes of the result and of the first cover. -/
def Sx (c : Nat → Nat) (W : World) (r4 x5 b : Nat) : Prop := Blk c 5 W r4 #[.bool false] 4 ∧ Blk c 5 W x5 #[.pointer (some ⟨b, 0, none⟩)] 24
theorem Sx.kept {c c' : Nat → Nat} {W W' : World} {r4 x5 b : Nat} {S : List Nat} (h : Sx c W r4 x5 b) (hm : Mv S c W c' W') (hi : 5 ∉ S) : Sx c' W' r4 x5 b := ⟨h.1.kept hm hi, h.2.kept hm hi⟩


theorem mv_base {S : List Nat} {w w' : World} {c : Nat → Nat} {g i : Nat} (hm : Mv S zc w c w') (hc : c g = i) (hi : i ≠ 0) : w.heap.size ≤ g := by
  rcases Nat.lt_or_ge g w.heap.size with h | h
  · exact absurd ((hm.col g h).symm.trans hc) (by simpa [zc] using hi.symm)
  · exact h
theorem row_base {S : List Nat} {w w' : World} {c : Nat → Nat} {i e s n : Nat} {v : Value} {xs : List Value} (h : Row c i w' e s v n xs) (hm : Mv S zc w c w') (hi : i ≠ 0) : w'.ownsRow w.heap.size e s v n xs := by
  refine ⟨h.own.1, ?_⟩
  rcases h.own.2 with h1 | ⟨g, cap, cur, e1, _, h3⟩
  · exact .inl h1
  · exact .inr ⟨g, cap, cur, e1, mv_base hm (h.col g (by rw [e1]; rfl)) hi, h3⟩
theorem inv0 {w W W' : World} {c : Nat → Nat} {b r4 x5 x9 nL c9 : Nat} {p9 : Option Addr} {L : List Sp} (hm : Mv [1, 2, 3] zc w c W) (h1 : CvO c 1 W b L) (h2 : Sx c W r4 x5 b) (h3 : Blk c 5 W x9 #[.slice p9 nL c9] 36) (h4 : Row c 5 W 53 2 (.slice p9 nL c9) nL (L.flatMap encS)) (hb : Below W.heap.size W W') :
    ((b < W'.heap.size ∧ ∀ v t fr, hp W' b = some (.cells #[v] t fr) → ∀ g, v.ownBlock = some g → g < W'.heap.size) ∧ CvR W' b L) ∧ (∃ v, Boxed W' b 60 v ∧ W'.ownsRow w.heap.size 30 2 v L.length (L.flatMap encS) ∧ w.heap.size ≤ b) ∧ Boxed W' r4 4 (.bool false) ∧ Boxed W' x5 24 (.pointer (some ⟨b, 0, none⟩)) ∧ Boxed W' x9 36 (.slice p9 nL c9) ∧ W'.ownsRow w.heap.size 53 2 (.slice p9 nL c9) nL (L.flatMap encS) := by
  have hk := Mv.of_below (S := []) (col := c) hb
  have h1' := h1.kept hk (by simp)
  have h2' := h2.kept hk (by simp)
  have h3' := h3.kept hk (by simp)
  have h4' := h4.kept hk (by simp)
  have hm' := hm.trans (hk.sub (by simp))
  obtain ⟨v, hv1, hv2⟩ := h1'.ex
  refine ⟨⟨⟨hp_lt hv1.hp, fun v' t fr hv g hg => ?_⟩, h1'.rd⟩, ⟨v, hv1.hp, row_base hv2 hm' (by decide), mv_base hm' hv1.col (by decide)⟩, h2'.1.hp, h2'.2.hp, h3'.hp, row_base h4' hm' (by decide)⟩
  rw [hv1.hp] at hv
  simp at hv
  obtain ⟨⟨rfl⟩, _⟩ := hv
  exact hv2.lt hg
/-- The list behind some rounds. -/
def LxC (L : List Sp) (pre : List Sp) : List Sp := if pre.length = 0 then L else cutC L (-4611686018427387904, 4611686018427387904)
/-- What a round's body finds and leaves. -/
def IC (B b r4 x5 x9 x11 : Nat) (p9 : Option Addr) (nL c9 : Nat) (L : List Sp) (N : Nat) (w : World) (pre : List Sp) (W : World) : Prop :=
  (∃ v, Boxed W b 60 v ∧ W.ownsRow B 30 2 v (LxC L pre).length ((LxC L pre).flatMap encS) ∧ B ≤ b) ∧ Boxed W r4 4 (.bool false) ∧ Boxed W x5 24 (.pointer (some ⟨b, 0, none⟩)) ∧ Boxed W x9 36 (.slice p9 nL c9) ∧ Boxed W x11 3 (.int .i64 pre.length) ∧ W.ownsRow B 53 2 (.slice p9 nL c9) nL (L.flatMap encS) ∧ N ≤ W.heap.size ∧ Below B w W
theorem iC_own {b r4 x5 x9 x11 : Nat} {p9 : Option Addr} {nL c9 : Nat} {L : List Sp} {N M : Nat} {w : World} (hM : w.heap.size ≤ M) : OwnFrom M (IC w.heap.size b r4 x5 x9 x11 p9 nL c9 L N w) :=
  OwnFrom.and (Own.from (holdsRow_own w.heap.size b 60 30 2 (fun (pre : List Sp) => (LxC L pre).length) (fun (pre : List Sp) => (LxC L pre).flatMap encS) (fun _ _ => w.heap.size ≤ b)) _)
    (OwnFrom.and (Own.from (boxed_own _ _ (fun _ => .bool false)) _) (OwnFrom.and (Own.from (boxed_own _ _ (fun _ => .pointer (some ⟨b, 0, none⟩))) _) (OwnFrom.and (Own.from (boxed_own _ _ (fun _ => .slice p9 nL c9)) _) (OwnFrom.and (Own.from (boxed_own _ _ (fun (pre : List Sp) => .int .i64 pre.length)) _)
      (OwnFrom.and (Own.from (row_own _ _ _ _ _ _) _) (OwnFrom.and (size_own _ _) (ownFrom_below (Nat.le_refl _) hM)))))))
theorem keeps_below {W W' : World} (h : Below W.heap.size W W') : KeepsOthers W W' := ⟨h.size, fun k o hk _ => (h.block k (Array.getElem?_eq_some_iff.1 hk).1).trans hk⟩

theorem lxC_law {L : List Sp} (hw : Wf L) (pre : List Sp) : Wf (LxC L pre) ∧ (LxC L pre).length ≤ L.length + 1 := by
  unfold LxC
  split
  · exact ⟨hw, by omega⟩
  · obtain ⟨h1, _, h2⟩ := cutC_law hw (-4611686018427387904, 4611686018427387904); exact ⟨h1, h2⟩
theorem lxC_step {L : List Sp} (hw : Wf L) (pre : List Sp) (x : Sp) : cutC (LxC L pre) (-4611686018427387904, 4611686018427387904) = LxC L (pre ++ [x]) := by
  have e : LxC L (pre ++ [x]) = cutC L (-4611686018427387904, 4611686018427387904) := if_neg (by simp)
  rw [e]
  unfold LxC
  split
  · rfl
  · exact cutC_idem hw _
theorem box_keep {W W' : World} {b base q n : Nat} {v u : Value} {t : TypeId} {xs : List Value} (hb : Boxed W b 60 v) (hr : W.ownsRow base 30 2 v n xs) (hk : ∀ q x, hp W q = some x → q ≠ b → v.ownBlock ≠ some q → hp W' q = some x) (hq : Boxed W q t u) (h60 : t ≠ 60) (h30 : t ≠ 30) : Boxed W' q t u := by
  refine hk q _ hq (fun e => ?_) (fun e => ?_)
  · subst e
    have : some (Obj.cells #[v] 60 (0, 0)) = some (Obj.cells #[u] t (0, 0)) := hb.symm.trans hq
    simp at this; exact h60 this.2.symm
  · obtain ⟨_, _, cur, h2⟩ := own_lt hr e
    have : some (Obj.cells cur 30 (0, 0)) = some (Obj.cells #[u] t (0, 0)) := h2.symm.trans hq
    simp at this; exact h30 this.2.symm
theorem box_below {W W' : World} {q : Nat} {t : TypeId} {u : Value} (h : Boxed W q t u) (hb : Below W.heap.size W W') : Boxed W' q t u := hp_below hb h
theorem not_pre {L pre : List Sp} {x a : Sp} (ha : L[pre.length]? = some a) (hx : x ≠ a) : ¬ (pre ++ [x]) <+: L := by
  rintro ⟨r, hr⟩
  rw [← hr] at ha
  simp at ha
  exact hx ha
set_option maxHeartbeats 16000000 in
theorem c_clones (w : World) (v u : Value) (l m : List Op4) (hv : OpsR w v l) (hu : OpsR w u m) (hn : l.length ≤ 4398046511103) (hn2 : m.length ≤ 4398046511103) :
    Calls Try.prog 7 #[v, u] w fun e w' => e = .returned (.bool true) ∧ Below w.heap.size w w' := by
  have HV := Lib.hid hv
  have HU := Lib.hid hu
  obtain ⟨p, cp, rfl, hx0⟩ := hv
  obtain ⟨q, cq, rfl, hx1⟩ := hu
  obtain ⟨n, hnn⟩ : ∃ n, l.length = n := ⟨_, rfl⟩
  obtain ⟨n2, hnn2⟩ : ∃ n2, m.length = n2 := ⟨_, rfl⟩
  rw [hnn] at HV hn ⊢
  rw [hnn2] at HU hn2 ⊢
  have HN := Lib.hid (And.intro hn hnn)
  have HN2 := Lib.hid (And.intro hn2 hnn2)
  clear hn hnn hx0 hn2 hnn2 hx1
  refine (callsIn_wide (n := 6)).1 ?_
  refine callsIn_of_wp_marks Try.func7 rfl trivial ?_ rfl
  simp only [Try.ntmps7, List.size_toArray, List.length_cons, List.length_nil, Nat.reduceAdd, Nat.reduceSub, Array.replicate_succ, Array.replicate_zero, List.push_toArray, List.append_toArray, List.nil_append, List.cons_append]
  refine wpIn_wide.2 ?_
  have T1 := Lib.hid True.intro
  have T2 := Lib.hid True.intro
  go_upto_region 4 with (first | (go_at_call 10; (with_reducible refine (c_fixed _).mono ?_); rintro e w1 ⟨rfl, hb1⟩; have HB1 := Lib.hid hb1; clear hb1) | (go_at_call 11; clear T1; (with_reducible refine (c_new0 (paint zc w 5) 1 w1).mono ?_); rintro e w2 ⟨b, rfl, hb, hcv, hch⟩; have H2 := Lib.hid (And.intro hcv hch); clear hb hcv hch) | (go_at_call 11; clear T2; (with_reducible refine (c_new0 (paint (paint zc w 5) w1 1) 2 w2).mono ?_); rintro e w3 ⟨d, rfl, hb, hcv, hch⟩; have H3 := Lib.hid (And.intro hcv hch); clear hb hcv hch))
  refine Ph.at_world ?_; intro W4 hW
  obtain ⟨x5, hx5⟩ : ∃ x5, w3.heap.size = x5 := ⟨_, rfl⟩
  obtain ⟨r4, hr4⟩ : ∃ r4, w.heap.size = r4 := ⟨_, rfl⟩
  have k5 : hp W4 x5 = some (.cells #[.pointer (some ⟨b, 0, none⟩)] 24 (0, 0)) := by rw [hW, ← hx5]; simp [hpA, hpS, cset_cells]
  have hB4 : Below w3.heap.size w3 W4 := by rw [hW]; exact by (repeat (first | (with_reducible assumption) | (with_reducible exact Below.refl _ _) | (with_reducible refine below_set ?_ (by first | assumption | (simp; done) | (simp; omega) | omega) _) | (with_reducible apply below_alloc) | (with_reducible apply below_drew) | (with_reducible apply below_drewN) | (with_reducible refine below_call ?_ (by assumption))))
  have hBa : Below w.heap.size w w1 := below_call (below_alloc (Below.refl _ _) _) HB1.out
  have m1 : Mv [1, 2] zc w (paint zc w 5) w1 := Mv.new hBa 5
  have b1 : Blk (paint zc w 5) 5 w1 r4 #[.bool false] 4 := ⟨by rw [← hr4]; exact hp_below HB1.out (hp_alloc_new w _), paint_new (by omega)⟩
  have m2 := m1.trans (H2.out.2.mv' (S := [1, 2]) (by simp))
  have b2 := b1.kept (H2.out.2.mv' (S := [1]) (by simp)) (by simp)
  have m3 := m2.trans (H3.out.2.mv' (S := [1, 2]) (by simp))
  have b3 := b2.kept (H3.out.2.mv' (S := [2]) (by simp)) (by simp)
  have c3 := H2.out.1.kept (H3.out.2.mv' (S := [2]) (by simp)) (by simp)
  have m4 := m3.trans (Mv.new (S := [1, 2]) hB4 5)
  have H4 := Lib.hid (And.intro (c3.kept (Mv.new (S := []) hB4 5) (by simp)) (And.intro (H3.out.1.kept (Mv.new (S := []) hB4 5) (by simp)) (And.intro m4 (show Sx _ W4 r4 x5 b from ⟨b3.kept (Mv.new (S := []) hB4 5) (by simp), ⟨k5, paint_new (by omega)⟩⟩))))
  rw [hx5, hr4]
  have HR4 := Lib.hid hr4
  clear hW k5 hB4 hBa m1 b1 m2 b2 m3 b3 c3 m4 hx5 hr4
  generalize paint (paint (paint (paint zc w 5) w1 1) w2 2) w3 5 = c4 at *
  go_wp2
  go_loopw [7] (fun t wr => ∃ (k : Nat) (L : List Sp) (c : Nat → Nat), t = .int .i64 k ∧ k ≤ n ∧ CvO c 1 wr b L ∧ CvO c 2 wr d L ∧ Wf L ∧ L.length ≤ k ∧ Mv [1, 2] zc w c wr ∧ Sx c wr r4 x5 b) (fun t _ => n - (intOf t).toNat)
  case atStart => exact ⟨0, [], _, rfl, Nat.zero_le _, H4.out.1, H4.out.2.1, Wf.nil, Nat.le_refl _, H4.out.2.2.1, H4.out.2.2.2⟩
  case round =>
    obtain ⟨k, L, c, rfl, hk, hcv, hdv, hw, hl, hm, hsx⟩ := hrel
    have hbw : Below w.heap.size w wr := hm.toBelow (fun k _ => by simp [zc])
    have HI := Lib.hid (And.intro hk (And.intro hcv (And.intro hw (And.intro hl (And.intro hm (And.intro hdv hsx))))))
    clear hk hcv hw hl hm hdv hsx
    by_cases hlt : k < n
    · have b1 : (k : Int) < (n : Int) := by omega
      have w1' : IntKind.i64.wrap ((k : Int) + 1) = (k : Int) + 1 := IntWalk.i64_in _ (by have := HN.out; omega)
      obtain ⟨o, ho⟩ := get_op (l := l) (k := k) (by rw [HN.out.2]; exact hlt)
      obtain ⟨g, f, rfl, y1, y2, y3, y4⟩ := (HV.out.below hbw).at ho
      have HY := Lib.hid (And.intro y1 (And.intro y2 (And.intro y3 y4)))
      have HO := Lib.hid ho
      obtain ⟨ct, lo', hi', X⟩ := o
      have HL := Lib.hid (addL_law HI.out.2.2.1 (lo', hi'))
      have HLB := Lib.hid (show L.length ≤ 4398046511103 by have := HI.out.2.2.2.1; have := HI.out.1; have := HN.out; omega)
      have HOO := Lib.hid (fun w => c_oof ct lo' hi' X w)
      clear ho hbw y1 y2 y3 y4
      go_upto_region 7 with fail
      refine Ph.region_at (by kernel_rfl) ?_
      refine Ph.at_quiet 6 (by kernel_rfl) ?_
      simp only [List.take_succ_cons, List.take_zero, List.drop_succ_cons, List.drop_zero]
      repeat ((first | (apply Ph.wpPh_g; (focus (intro wx hS0; have hz := below_call (below_drew (Below.refl wr.heap.size wr)) hS0; have c5 := hp_cell (hp_below hz HI.out.2.2.2.2.2.2.2.hp); have z1 := cell_below hz HY.out.1; have z2 := cell_below hz HY.out.2.1; have z3 := cell_below hz HY.out.2.2.1; have z4 := cell_below hz HY.out.2.2.2; go_simp; first | exact rfl | exact ⟨rfl, Below.refl _ _⟩ | ((with_reducible refine (HOO.out _).mono ?_); rintro e w2 ⟨rfl, hb⟩; exact ⟨rfl, hb⟩))))); simp only [Act.put, List.setIfInBounds_toArray, List.set_cons_zero, List.set_cons_succ])
      refine Ph.wpPh_nil ?_; intro w6 hS6
      have HB6 := Lib.hid (below_call (below_drew (Below.refl wr.heap.size wr)) hS6); clear hS6
      refine Ph.at_op rfl (by kernel_rfl) ?_
      go_wp2_with (go_at_call 14; refine (c_add c 1 w6 b L (HI.out.2.1.below HB6.out) HI.out.2.2.1 (by have := HLB.out; omega) lo' hi').mono ?_; rintro e w7 ⟨rfl, hcv, hch⟩; have H7 := Lib.hid (And.intro hcv hch); clear hcv hch)
      refine Ph.at_end (by simp) ?_
      have H8 := Lib.hid (HI.out.2.2.2.2.1.after_below HB6.out |>.trans (H7.out.2.mv' (S := [1, 2]) (by simp)))
      go_upto_region 8 with fail
      have hbw2 : Below w.heap.size w w7 := H8.out.toBelow (fun k _ => by simp [zc])
      obtain ⟨g', f', e', y1, y2, y3, y4⟩ := (HV.out.below hbw2).at HO.out
      simp only [Option.some.injEq, Addr.mk.injEq, and_true] at e'
      obtain ⟨rfl, rfl⟩ := e'
      clear hbw2
      go_wp2_with (first | (go_at_call 13; (with_reducible refine (HOO.out _).mono ?_); rintro e w8 ⟨rfl, hb⟩; have HB8 := Lib.hid hb; clear hb) | (go_at_call 14; refine (c_add (paint c w6 1) 2 w8 d L (((HI.out.2.2.2.2.2.1.below HB6.out).kept (H7.out.2.mv' (S := [1]) (by simp)) (by simp)).below HB8.out) HI.out.2.2.1 (by have := HLB.out; omega) lo' hi').mono ?_; rintro e w9 ⟨rfl, hcv, hch⟩; have H9 := Lib.hid (And.intro hcv hch); clear hcv hch))
      go_roundw
      case rel =>
        have hsx := HI.out.2.2.2.2.2.2
        exact ⟨k + 1, _, _, by go_num, by omega, (H7.out.1.below HB8.out).kept (H9.out.2.mv' (S := [2]) (by simp)) (by simp), H9.out.1, HL.out.1, by have := HL.out.2.2; have := HI.out.2.2.2.1; omega, (H8.out.after_below HB8.out).trans (H9.out.2.mv' (by simp)), ((((hsx.kept (Mv.of_below (S := []) HB6.out) (by simp)).kept (H7.out.2.mv' (S := [1]) (by simp)) (by simp)).kept (Mv.of_below (S := []) HB8.out) (by simp)).kept (H9.out.2.mv' (S := [2]) (by simp)) (by simp))⟩
      case measure => simp [intOf]; omega
    · have b1 : ¬ ((k : Int) < (n : Int)) := by omega
      have HLB := Lib.hid (show L.length ≤ 4398046511103 by have := HI.out.2.2.2.1; have := HI.out.1; have := HN.out; omega)
      clear hbw
      have c5 := hp_cell HI.out.2.2.2.2.2.2.2.hp
      obtain ⟨nL, hnL⟩ : ∃ nL, L.length = nL := ⟨_, rfl⟩
      have HNL := Lib.hid (And.intro hnL (show nL ≤ 4398046511103 by have := HLB.out; omega))
      clear hnL
      go_upto_region 13 with (first | (go_at_call 25; (with_reducible refine (c_cvclone wr b L HI.out.2.1.rd (by have := HLB.out; omega)).mono ?_); rintro e w9 ⟨e3, rfl, hcv, hb⟩; have H9 := Lib.hid (And.intro hcv hb); replace c5 := hp_cell (hp_below hb HI.out.2.2.2.2.2.2.2.hp); clear hcv hb) | (go_at_call 24; (with_reducible refine (c_listedN w9 (some ⟨b, 0, none⟩) L nL (cvN_of (HI.out.2.1.rd.below H9.out.2)) HNL.out.1 (by have := HNL.out; omega)).mono ?_); rintro e w10 ⟨p9, c9, rfl, hrow, hrd, hb⟩; have H10 := Lib.hid (And.intro hrow hb); clear hrow hb hrd))
      refine Ph.at_world ?_; intro W12 hW
      obtain ⟨x9, hx9⟩ : ∃ x9, w10.heap.size = x9 := ⟨_, rfl⟩
      have k9 : hp W12 x9 = some (.cells #[.slice p9 nL c9] 36 (0, 0)) := by rw [hW, ← hx9]; simp [hpA, hpS, cset_cells]
      have hB12 : Below w10.heap.size w10 W12 := by rw [hW]; exact by (repeat (first | (with_reducible assumption) | (with_reducible exact Below.refl _ _) | (with_reducible refine below_set ?_ (by first | assumption | (simp; done) | (simp; omega) | omega) _) | (with_reducible apply below_alloc) | (with_reducible apply below_drew) | (with_reducible apply below_drewN) | (with_reducible refine below_call ?_ (by assumption))))
      have r10 : Row (paint (paint c wr 3) w9 5) 5 w10 53 2 (.slice p9 nL c9) nL (L.flatMap encS) := ⟨ownsRow_base0 H10.out.1, fun g hg => paint_new (own_lt H10.out.1 hg).1⟩
      have H12 : Hid (CvO (paint (paint (paint c wr 3) w9 5) w10 5) 1 W12 b L ∧ CvO (paint (paint (paint c wr 3) w9 5) w10 5) 2 W12 d L ∧ CvO (paint (paint (paint c wr 3) w9 5) w10 5) 3 W12 e3 L ∧ Sx (paint (paint (paint c wr 3) w9 5) w10 5) W12 r4 x5 b ∧ Blk (paint (paint (paint c wr 3) w9 5) w10 5) 5 W12 x9 #[.slice p9 nL c9] 36 ∧ Row (paint (paint (paint c wr 3) w9 5) w10 5) 5 W12 53 2 (.slice p9 nL c9) nL (L.flatMap encS) ∧ Mv [1, 2] zc w (paint (paint (paint c wr 3) w9 5) w10 5) W12) := Lib.hid (by
        have n9 : Mv [] c wr (paint c wr 3) w9 := Mv.new H9.out.2 3
        have n10 : Mv [] (paint c wr 3) w9 (paint (paint c wr 3) w9 5) w10 := Mv.new H10.out.2 5
        have n12 : Mv [] (paint (paint c wr 3) w9 5) w10 (paint (paint (paint c wr 3) w9 5) w10 5) W12 := Mv.new hB12 5
        have nn := (n9.trans n10).trans n12
        have hI := HI.out
        refine ⟨hI.2.1.kept nn (by simp), hI.2.2.2.2.2.1.kept nn (by simp), (H9.out.1.fresh.2.kept n10 (by simp)).kept n12 (by simp), hI.2.2.2.2.2.2.kept nn (by simp), ⟨k9, paint_new (by omega)⟩, r10.kept n12 (by simp), hI.2.2.2.2.1.trans (nn.sub (by simp))⟩)
      have HWL := Lib.hid HI.out.2.2.1
      rw [hx9]
      clear hW k9 hB12 r10 hx9 c5 H9 H10 HLB HI
      generalize paint (paint (paint c wr 3) w9 5) w10 5 = c7 at *
      go_wp2
      go_loopw [10] (fun t wr => ∃ (k : Nat) (L3 : List Sp) (c : Nat → Nat), t = .int .i64 k ∧ k ≤ n2 ∧ CvO c 3 wr e3 L3 ∧ Wf L3 ∧ L3.length ≤ nL + k ∧ Mv [3] c7 W12 c wr) (fun t _ => n2 - (intOf t).toNat)
      case atStart => exact ⟨0, L, c7, rfl, Nat.zero_le _, H12.out.2.2.1, HWL.out, by rw [HNL.out.1]; exact Nat.le_refl _, Mv.refl⟩
      case round =>
        obtain ⟨k2, L3, c8, rfl, hk, hcv, hw, hl, hm⟩ := hrel
        have hm0 := (H12.out.2.2.2.2.2.2.sub (T := [1, 2, 3]) (by simp)).trans (hm.sub (T := [1, 2, 3]) (by simp))
        have hbw : Below w.heap.size w wr := hm0.toBelow (fun k _ => by simp [zc])
        have HJ := Lib.hid (And.intro hk (And.intro hcv (And.intro hw (And.intro hl (And.intro hm hm0)))))
        clear hk hcv hw hl hm hm0
        by_cases hlt2 : k2 < n2
        · have b1' : (k2 : Int) < (n2 : Int) := by omega
          have w1' : IntKind.i64.wrap ((k2 : Int) + 1) = (k2 : Int) + 1 := IntWalk.i64_in _ (by have := HN2.out; omega)
          obtain ⟨o, ho⟩ := get_op (l := m) (k := k2) (by rw [HN2.out.2]; exact hlt2)
          obtain ⟨g, f, rfl, y1, y2, y3, y4⟩ := (HU.out.below hbw).at ho
          obtain ⟨ct, lo', hi', X⟩ := o
          have HL := Lib.hid (stepL_law HJ.out.2.2.1 (ct, lo', hi', X))
          have HOO := Lib.hid (fun w => c_oof ct lo' hi' X w)
          have HLB := Lib.hid (show L3.length ≤ 8796093022206 by have := HJ.out.2.2.2.1; have := HJ.out.1; have := HN2.out; have := HNL.out; omega)
          clear ho hbw
          cases ct with
          | true =>
            have hst : stepL L3 (true, lo', hi', X) = cutC L3 (lo', hi') := by unfold stepL; rw [if_pos rfl]
            rw [hst] at HL
            clear hst
            go_wp2_with (first | (go_at_call 13; (with_reducible refine (HOO.out _).mono ?_); rintro e w13 ⟨rfl, hb⟩; have HB13 := Lib.hid hb; clear hb) | (go_at_call 12; refine (c_cutc c8 3 w13 e3 L3 (HJ.out.2.1.below HB13.out) HJ.out.2.2.1 HLB.out lo' hi').mono ?_; rintro e w14 ⟨rfl, hcv, hch⟩; have HX := Lib.hid (And.intro hcv hch); clear hcv hch))
            go_roundw
            case rel => exact ⟨k2 + 1, _, _, by go_num, by omega, HX.out.1, HL.out.1, by have := HL.out.2; have := HJ.out.2.2.2.1; omega, (HJ.out.2.2.2.2.1.after_below HB13.out).trans HX.out.2.mv⟩
            case measure => simp [intOf]; omega
          | false =>
            have hst : stepL L3 (false, lo', hi', X) = addL L3 (lo', hi') := by unfold stepL; rw [if_neg (by simp)]
            rw [hst] at HL
            clear hst
            go_wp2_with (first | (go_at_call 13; (with_reducible refine (HOO.out _).mono ?_); rintro e w13 ⟨rfl, hb⟩; have HB13 := Lib.hid hb; clear hb) | (go_at_call 14; refine (c_add c8 3 w13 e3 L3 (HJ.out.2.1.below HB13.out) HJ.out.2.2.1 HLB.out lo' hi').mono ?_; rintro e w14 ⟨rfl, hcv, hch⟩; have HX := Lib.hid (And.intro hcv hch); clear hcv hch))
            go_roundw
            case rel => exact ⟨k2 + 1, _, _, by go_num, by omega, HX.out.1, HL.out.1, by have := HL.out.2; have := HJ.out.2.2.2.1; omega, (HJ.out.2.2.2.2.1.after_below HB13.out).trans HX.out.2.mv⟩
            case measure => simp [intOf]; omega
        · have b1' : ¬ ((k2 : Int) < (n2 : Int)) := by omega
          have hrow9 := H12.out.2.2.2.2.2.1.kept HJ.out.2.2.2.2.1 (by simp)
          have hrd9 : RdL wr (.slice p9 nL c9) L := row_rdq (t := 53) (col := c8) (i := 5) (by rw [HNL.out.1]; exact hrow9)
          have H13 := Lib.hid (And.intro (H12.out.1.kept HJ.out.2.2.2.2.1 (by simp)) (And.intro (H12.out.2.1.kept HJ.out.2.2.2.2.1 (by simp)) (And.intro (H12.out.2.2.2.1.kept HJ.out.2.2.2.2.1 (by simp)) (And.intro (H12.out.2.2.2.2.1.kept HJ.out.2.2.2.2.1 (by simp)) (And.intro hrow9 (And.intro hrd9 HJ.out.2.2.2.2.2))))))
          clear hrow9 hrd9 hbw H12 HJ
          go_upto_region 19 with fail
          refine Ph.region_at (by kernel_rfl) ?_
          refine Ph.at_ghost 3 1 69 (fun g : Option Addr × Nat => Value.slice g.1 nL g.2) (fun g w1 => RdL w1 (.slice g.1 nL g.2) L) (fun g a b h hb => RdL.below h hb) (by kernel_rfl) (by kernel_rfl) (by decide) (by decide) rfl ?_
          simp only [List.take_succ_cons, List.take_zero, List.drop_succ_cons, List.drop_zero]
          (first | (apply Ph.wpGh_g (by decide); (focus (intro wx hS0; have hz := below_call (below_drew (Below.refl wr.heap.size wr)) hS0; have c5 := hp_cell (hp_below hz H13.out.2.2.1.2.hp); have c9 := hp_cell (hp_below hz H13.out.2.2.2.1.hp); go_simp; first | exact rfl | exact ⟨rfl, Below.refl _ _⟩)))); simp only [Act.put, List.setIfInBounds_toArray, List.set_cons_zero, List.set_cons_succ]
          refine Ph.wpGh_e rfl ?_ ?_
          · intro wx hS0; have hz := below_call (below_drew (Below.refl wr.heap.size wr)) hS0; have c5 := hp_cell (hp_below hz H13.out.2.2.1.2.hp); have c9 := hp_cell (hp_below hz H13.out.2.2.2.1.hp); go_simp; refine (c_listedN wx (some ⟨b, 0, none⟩) L nL (cvN_of (H13.out.1.rd.below hz)) HNL.out.1 (by have := HNL.out; omega)).mono ?_; rintro e w2 ⟨p', c', rfl, hr', hrd', hb'⟩; exact ⟨_, rfl, p', c', rfl, hb', hrd'⟩
          (first | (apply Ph.wpGh_g (by decide); (focus (intro wx hS0; have hz := below_call (below_drew (Below.refl wr.heap.size wr)) hS0; have c5 := hp_cell (hp_below hz H13.out.2.2.1.2.hp); have c9 := hp_cell (hp_below hz H13.out.2.2.2.1.hp); go_simp; first | exact rfl | exact ⟨rfl, Below.refl _ _⟩)))); simp only [Act.put, List.setIfInBounds_toArray, List.set_cons_zero, List.set_cons_succ]
          refine Ph.wpGh_nil ?_; intro g1 w20 hS20 hG1; simp only [Act.put, List.setIfInBounds_toArray, List.set_cons_zero, List.set_cons_succ]
          have HB20 := Lib.hid (below_call (below_drew (Below.refl wr.heap.size wr)) hS20); clear hS20
          refine Ph.at_op rfl (by kernel_rfl) ?_
          go_wp2_with (go_at_call 23; refine (c_same _ (.slice g1.1 nL g1.2) (.slice p9 nL c9) L (by have := HNL.out; omega) hG1 (H13.out.2.2.2.2.2.1.below HB20.out)).mono ?_; rintro e w21 ⟨rfl, hb⟩; have HB21 := Lib.hid (below_call HB20.out hb); clear hb)
          refine Ph.at_quiet 6 (by kernel_rfl) ?_
          simp only [List.take_succ_cons, List.take_zero, List.drop_succ_cons, List.drop_zero]
          repeat ((first | (apply Ph.wpPh_g; (focus (intro wx hS0; go_simp; first | exact rfl | exact ⟨rfl, Below.refl _ _⟩)))); simp only [Act.put, List.setIfInBounds_toArray, List.set_cons_zero, List.set_cons_succ])
          refine Ph.wpPh_nil ?_; intro w22 hS22
          have HB22 := Lib.hid (below_call HB21.out hS22); clear hS22
          refine Ph.at_ghost 9 7 75 (fun g : Option Addr × Nat => Value.slice g.1 nL g.2) (fun g w1 => RdL w1 (.slice g.1 nL g.2) L) (fun g a b h hb => RdL.below h hb) (by kernel_rfl) (by kernel_rfl) (by decide) (by decide) rfl ?_
          simp only [List.take_succ_cons, List.take_zero, List.drop_succ_cons, List.drop_zero]
          (first | (apply Ph.wpGh_g (by decide); (focus (intro wx hS0; have hz := below_call HB22.out hS0; have c5 := hp_cell (hp_below hz H13.out.2.2.1.2.hp); have c9 := hp_cell (hp_below hz H13.out.2.2.2.1.hp); go_simp; first | exact rfl | exact ⟨rfl, Below.refl _ _⟩)))); simp only [Act.put, List.setIfInBounds_toArray, List.set_cons_zero, List.set_cons_succ]
          refine Ph.wpGh_e rfl ?_ ?_
          · intro wx hS0; have hz := below_call HB22.out hS0; have c5 := hp_cell (hp_below hz H13.out.2.2.1.2.hp); have c9 := hp_cell (hp_below hz H13.out.2.2.2.1.hp); go_simp; refine (c_listedN wx (some ⟨d, 0, none⟩) L nL (cvN_of (H13.out.2.1.rd.below hz)) HNL.out.1 (by have := HNL.out; omega)).mono ?_; rintro e w2 ⟨p', c', rfl, hr', hrd', hb'⟩; exact ⟨_, rfl, p', c', rfl, hb', hrd'⟩
          (first | (apply Ph.wpGh_g (by decide); (focus (intro wx hS0; have hz := below_call HB22.out hS0; have c5 := hp_cell (hp_below hz H13.out.2.2.1.2.hp); have c9 := hp_cell (hp_below hz H13.out.2.2.2.1.hp); go_simp; first | exact rfl | exact ⟨rfl, Below.refl _ _⟩)))); simp only [Act.put, List.setIfInBounds_toArray, List.set_cons_zero, List.set_cons_succ]
          refine Ph.wpGh_nil ?_; intro g2 w23 hS23 hG2; simp only [Act.put, List.setIfInBounds_toArray, List.set_cons_zero, List.set_cons_succ]
          have HB23 := Lib.hid (below_call HB22.out hS23); clear hS23
          refine Ph.at_op rfl (by kernel_rfl) ?_
          go_wp2_with (go_at_call 23; refine (c_same _ (.slice g2.1 nL g2.2) (.slice p9 nL c9) L (by have := HNL.out; omega) hG2 (H13.out.2.2.2.2.2.1.below HB23.out)).mono ?_; rintro e w24 ⟨rfl, hb⟩; have HB24 := Lib.hid (below_call HB23.out hb); clear hb)
          refine Ph.at_quiet 12 (by kernel_rfl) ?_
          simp only [List.take_succ_cons, List.take_zero, List.drop_succ_cons, List.drop_zero]
          repeat ((first | (apply Ph.wpPh_g; (focus (intro wx hS0; go_simp; first | exact rfl | exact ⟨rfl, Below.refl _ _⟩)))); simp only [Act.put, List.setIfInBounds_toArray, List.set_cons_zero, List.set_cons_succ])
          refine Ph.wpPh_nil ?_; intro w25 hS25
          refine Ph.at_end (by simp) ?_
          have HB25 := Lib.hid (below_call HB24.out hS25); clear hS25
          have hsx25 := (H13.out.2.2.1.kept (Mv.of_below (S := []) HB25.out) (by simp)).2.hp
          have n5 : ¬ x5 = w25.heap.size := (by have := hp_lt hsx25; omega)
          have n7 : x5 < w25.heap.size := hp_lt hsx25
          have c5 := hp_cell hsx25
          go_upto_region 22 with fail
          refine Ph.at_world ?_; intro W26 hW
          obtain ⟨x11, hx11⟩ : ∃ x11, w25.heap.size = x11 := ⟨_, rfl⟩
          have k11 : Boxed W26 x11 3 (.int .i64 0) := by rw [hW, ← hx11]; exact Boxed.new _ _ _
          have hB26 : Below w25.heap.size w25 W26 := by rw [hW]; exact by (repeat (first | (with_reducible assumption) | (with_reducible exact Below.refl _ _) | (with_reducible refine below_set ?_ (by first | assumption | (simp; done) | (simp; omega) | omega) _) | (with_reducible apply below_alloc) | (with_reducible apply below_drew) | (with_reducible apply below_drewN) | (with_reducible refine below_call ?_ (by assumption))))
          have H26 := Lib.hid (And.intro k11 (And.intro hB26 hx11))
          replace c5 := hp_cell (hp_below hB26 hsx25)
          rw [hx11]
          clear hW k11 hB26 hsx25 n5 n7 hx11
          go_wp2_with (go_at_call 26; (with_reducible refine (c_allv W26 (some ⟨b, 0, none⟩)).mono ?_); rintro e w27 ⟨rfl, rfl⟩)
          obtain ⟨x12, hx12⟩ : ∃ x12, W26.heap.size = x12 := ⟨_, rfl⟩
          rw [hx12]
          have k12 : Boxed (W26.alloc (.cells #[.pointer (some ⟨b, 0, none⟩)] 24)) x12 24 (.pointer (some ⟨b, 0, none⟩)) := by rw [← hx12]; exact Boxed.new _ _ _
          have hB27 : Below wr.heap.size wr (W26.alloc (.cells #[.pointer (some ⟨b, 0, none⟩)] 24)) := below_call (below_call HB25.out H26.out.2.1) (below_alloc (Below.refl _ _) _)
          have hx : Boxed (W26.alloc (.cells #[.pointer (some ⟨b, 0, none⟩)] 24)) x11 3 (.int .i64 0) := H26.out.1.alloc _
          obtain ⟨W27, hW27⟩ : ∃ W27, W26.alloc (.cells #[.pointer (some ⟨b, 0, none⟩)] 24) = W27 := ⟨_, rfl⟩
          rw [hW27] at k12 hB27 hx ⊢
          have hmv := H13.out.2.2.2.2.2.2
          have hw27 : Below w.heap.size w W27 := below_call (hmv.toBelow (fun k _ => by simp [zc])) hB27
          have hI0 := inv0 hmv H13.out.1 H13.out.2.2.1 H13.out.2.2.2.1 H13.out.2.2.2.2.1 hB27
          clear hW27 hmv
          refine (wpIn_wide (n := 6)).1 ?_
          refine rf_box (p2 := 12) (by omega) (lb := #[.pointer (some ⟨x12, 0, none⟩)]) rfl (n1 := W27.heap.size) (o := b) (L := L) (w0 := W27)
            (all_stops (6 - 1) (by omega) x12 W27.heap.size b L (by have := HNL.out; omega) W27 (some ⟨b, 0, none⟩) k12.lt k12.cell (cvN_of hI0.1.2) hI0.1.1.1 (Nat.le_refl _) hI0.1.1.2) hI0.1.1.1 (Below.refl _ _)
            (IC w.heap.size b r4 x5 x9 x11 p9 nL c9 L W27.heap.size w) (fun _ pre _ => ¬ pre <+: L) (iC_own (by have := hw27.size; exact this)) (fun c => ownFrom_pure _ _) ⟨hI0.2.1, hI0.2.2.1, hI0.2.2.2.1, hI0.2.2.2.2.1, hx, hI0.2.2.2.2.2, Nat.le_refl _, hw27⟩ (fun pre W h => h.2.2.2.2.2.2.1) (fun pre W h => by obtain ⟨v, h1, h2, _⟩ := h.1; exact ⟨v, 60, (0, 0), h1, fun g hg => (own_lt h2 hg).2.1⟩) ?assign ?body ?done ?stop
          case assign =>
            intro l x W K hK
            gi_wp2
          case body =>
            intro l pre x Bx W hI hBx hxW hub0 hlt
            obtain ⟨⟨v, hb, hrow, hbb⟩, hr4, hx5, hx9, hx11, hrow9, hN, hB⟩ := hI
            obtain ⟨s1, s2⟩ := x
            obtain ⟨kk, hkk⟩ : ∃ kk, pre.length = kk := ⟨_, rfl⟩
            obtain ⟨⟨a1, a2⟩, ha⟩ := get_lt (L := L) (k := kk) (by omega)
            have hkl : kk < nL := by have := HNL.out; omega
            have hub1 : v.ownBlock ≠ some Bx := by
              obtain ⟨v', t, fr, h1, h2⟩ := hub0
              rw [show hp W b = _ from hb] at h1
              simp at h1
              obtain ⟨⟨rfl⟩, _⟩ := h1
              exact h2
            have hwl := lxC_law HWL.out pre
            have hst := lxC_step HWL.out pre (s1, s2)
            rw [hkk] at hx11
            have HB := Lib.hid (And.intro hb (And.intro hrow (And.intro hbb (And.intro hN hB))))
            have HX := Lib.hid (And.intro hr4 (And.intro hx5 (And.intro hx9 (And.intro hx11 (And.intro hrow9 (And.intro hxW hub1))))))
            have HK := Lib.hid (And.intro hkk (And.intro ha (And.intro hwl hst)))
            have HOF := Lib.hid (fun w => c_of (-4611686018427387904) 4611686018427387904 w)
            clear hub0 hb hrow hbb hN hB hr4 hx5 hx9 hx11 hrow9 hxW hub1 hkk ha hwl hst hlt
            simp only [Act.put, List.setIfInBounds_toArray, List.set_cons_zero, List.set_cons_succ]
            gi_upto_region 24 with fail
            refine region_in (by kernel_rfl) (by kernel_rfl) (fun ⟨_, _, h⟩ => h) ?_
            refine Ph.at_quiet 2 (by kernel_rfl) ?_
            simp only [List.take_succ_cons, List.take_zero, List.drop_succ_cons, List.drop_zero]
            repeat ((first | (apply Ph.wpPh_g; (focus (intro wx hS0; have hz := below_call (below_drew (Below.refl W.heap.size W)) hS0; have c5 := (box_below HX.out.2.1 hz).cell; go_simp; first | exact rfl | exact ⟨rfl, Below.refl _ _⟩ | ((with_reducible refine (HOF.out _).mono ?_); rintro e w2 ⟨rfl, hb⟩; exact ⟨rfl, hb⟩))))); simp only [Act.put, List.setIfInBounds_toArray, List.set_cons_zero, List.set_cons_succ])
            refine Ph.wpPh_nil ?_; intro w30 hS30
            have HB30 := Lib.hid (below_call (below_drew (Below.refl W.heap.size W)) hS30); clear hS30
            have hb30 : Boxed w30 b 60 v := box_below HB.out.1 HB30.out
            have hrow30 := row_keep HB.out.2.1 (fun g x _ hg => hp_below HB30.out hg)
            have H30 := Lib.hid (And.intro hb30 hrow30)
            clear hb30 hrow30
            refine Ph.at_op rfl (by kernel_rfl) ?_
            go_wp2_with (go_at_call 12; refine (c_cutc (hub b v) 1 w30 b (LxC L pre) (cvO_hub H30.out.1 H30.out.2) HK.out.2.2.1.1 (by have := HK.out.2.2.1.2; have := HNL.out; omega) (-4611686018427387904) 4611686018427387904).mono ?_; rintro e w31 ⟨rfl, hcv, hch⟩; have H31 := Lib.hid (And.intro hcv hch); clear hcv hch)
            refine Ph.at_end (by simp) ?_
            have hR := hub_round (n1 := W27.heap.size) H30.out.1 H30.out.2 H31.out.2 H31.out.1 HB.out.2.2.1 (Nat.le_trans HB.out.2.2.2.2.size HB30.out.size)
            rw [HK.out.2.2.2] at hR
            have hk5 : Boxed w31 r4 4 (.bool false) ∧ Boxed w31 x5 24 (.pointer (some ⟨b, 0, none⟩)) ∧ Boxed w31 x9 36 (.slice p9 nL c9) ∧ Boxed w31 x11 3 (.int .i64 kk) ∧ w31.ownsRow w.heap.size 53 2 (.slice p9 nL c9) nL (L.flatMap encS) ∧ hp w31 Bx = some (.cells #[.int .i64 s1, .int .i64 s2] 30 (0, 0)) := by
              have hX := HX.out
              have kp := hR.2.2.2.1
              have hb' := H30.out.1; have hr' := H30.out.2
              refine ⟨box_keep hb' hr' kp (box_below hX.1 HB30.out) (by decide) (by decide), box_keep hb' hr' kp (box_below hX.2.1 HB30.out) (by decide) (by decide), box_keep hb' hr' kp (box_below hX.2.2.1 HB30.out) (by decide) (by decide), box_keep hb' hr' kp (box_below hX.2.2.2.1 HB30.out) (by decide) (by decide), row_keep hX.2.2.2.2.1 (fun g x hg hx => ?_), kp _ _ (hp_below HB30.out hX.2.2.2.2.2.1) (fun e => ?_) hX.2.2.2.2.2.2⟩
              · obtain ⟨_, _, cur, h2⟩ := own_lt hX.2.2.2.2.1 hg
                obtain rfl : x = .cells cur 53 (0, 0) := by rw [hx] at h2; simpa using h2
                refine kp g _ (hp_below HB30.out hx) (fun e => ?_) (fun e => ?_)
                · subst e
                  have : some (Obj.cells #[v] 60 (0, 0)) = some (Obj.cells cur 53 (0, 0)) := hb'.symm.trans (hp_below HB30.out hx)
                  simp at this
                · obtain ⟨_, _, cur', h3⟩ := own_lt hr' e
                  have : some (Obj.cells cur' 30 (0, 0)) = some (Obj.cells cur 53 (0, 0)) := h3.symm.trans (hp_below HB30.out hx)
                  simp at this
              · subst e
                have : some (Obj.cells #[v] 60 (0, 0)) = some (Obj.cells #[.int .i64 s1, .int .i64 s2] 30 (0, 0)) := (HB.out.1).symm.trans hX.2.2.2.2.2.1
                simp at this
            have hrd9 : RdL w31 (.slice p9 nL c9) L := by have e := hk5.2.2.2.2.1; rw [← HNL.out.1] at e ⊢; exact own_rdl e
            have H31b := Lib.hid hR
            have H5 := Lib.hid hk5
            obtain ⟨g9, o9, rfl, y1, y2⟩ := hrd9.at HK.out.2.1
            have HY := Lib.hid (And.intro y1 y2)
            have hz0 : (0 : Int) ≤ (kk : Int) := by omega
            have hl0 : (kk : Int) < (nL : Int) := by omega
            have hl1 : ¬ ((nL : Int) ≤ (kk : Int)) := by omega
            have hl2 : ¬ (nL ≤ kk) := by omega
            clear hR hk5 hrd9 y1 y2
            by_cases h1 : s1 = a1
            · by_cases h2 : s2 = a2
              · subst h1 h2
                gi_upto_region 25 with fail
                refine region_in (by kernel_rfl) (by kernel_rfl) (fun ⟨_, _, h⟩ => h) ?_
                refine Ph.at_quiet 24 (by kernel_rfl) ?_
                simp only [List.take_succ_cons, List.take_zero, List.drop_succ_cons, List.drop_zero]
                repeat ((first | (apply Ph.wpPh_g; (focus (intro wx hS0; have hz := below_call (below_drew (Below.refl w31.heap.size w31)) hS0; have c11 := (box_below H5.out.2.2.2.1 hz).cell; have c9' := (box_below H5.out.2.2.1 hz).cell; have cX := hp_cell (hp_below hz H5.out.2.2.2.2.2); have y1 := cell_below hz HY.out.1; have y2 := cell_below hz HY.out.2; go_simp; first | exact rfl | exact ⟨rfl, Below.refl _ _⟩)))); simp only [Act.put, List.setIfInBounds_toArray, List.set_cons_zero, List.set_cons_succ])
                refine Ph.wpPh_nil ?_; intro w33 hS33
                refine Ph.at_end (by simp) ?_
                have HB33 := Lib.hid (below_call (below_drew (Below.refl w31.heap.size w31)) hS33); clear hS33
                have hb11 := box_below H5.out.2.2.2.1 HB33.out
                have c11 := hb11.cell
                have f11 := hb11.frozen
                have w1' : IntKind.i64.wrap ((kk : Int) + 1) = (kk : Int) + 1 := IntWalk.i64_in _ (by have := HNL.out; omega)
                have H11 := Lib.hid hb11; clear hb11
                gi_wp2
                have hX := HX.out; have h5 := H5.out; have hR := H31b.out; have hBB := HB.out
                have kp31 := hR.1
                have hsz : w.heap.size ≤ w31.heap.size := Nat.le_trans hBB.2.2.2.2.size (Nat.le_trans HB30.out.size H31.out.2.size)
                have hx11 : w.heap.size ≤ x11 := by have := HX.out.2.2.2.1; have := H26.out.2.2; have := HB25.out.size; have := (H13.out.2.2.2.2.2.2).size; omega
                have hbx : b < W.heap.size := hBB.1.lt
                have hst : ∀ q t u, q ≠ x11 → Boxed w31 q t u → Boxed (w33.setCell ⟨x11, 0, none⟩ (.int .i64 ((kk : Int) + 1))) q t u := fun q t u hq hh => (box_below hh HB33.out).other hq _
                have ne : ∀ q t u, t ≠ 3 → Boxed w31 q t u → q ≠ x11 := fun q t u ht hh e => by
                  subst e
                  have : some (Obj.cells #[u] t (0, 0)) = some (Obj.cells #[.int .i64 kk] 3 (0, 0)) := hh.symm.trans h5.2.2.2.1
                  simp at this; exact ht this.2
                have nr : ∀ {t : TypeId} {vv : Value} {nn : Nat} {xs : List Value}, t ≠ 3 → w31.ownsRow w.heap.size t 2 vv nn xs → (w33.setCell ⟨x11, 0, none⟩ (.int .i64 ((kk : Int) + 1))).ownsRow w.heap.size t 2 vv nn xs := fun ht hh => row_keep hh (fun g x hg hx => by
                  obtain ⟨_, _, cur, h2⟩ := own_lt hh hg
                  refine hp_set_ne (hp_below HB33.out hx) (p := ⟨x11, 0, none⟩) (fun e => ?_) _
                  have e' : g = x11 := e
                  subst e'
                  have : some (Obj.cells cur _ (0, 0)) = some (Obj.cells #[.int .i64 kk] 3 (0, 0)) := h2.symm.trans h5.2.2.2.1
                  simp at this; exact ht this.2)
                obtain ⟨v', hv1, hv2⟩ := hR.2.2.1
                refine ⟨?_, ?_, ⟨⟨v', hst _ _ _ (ne _ _ _ (by decide) hv1) hv1, nr (by decide) hv2, hBB.2.2.1⟩, hst _ _ _ (ne _ _ _ (by decide) h5.1) h5.1, hst _ _ _ (ne _ _ _ (by decide) h5.2.1) h5.2.1, hst _ _ _ (ne _ _ _ (by decide) h5.2.2.1) h5.2.2.1, ?_, nr (by decide) h5.2.2.2.2.1, ?_, ?_⟩⟩
                · exact ((((keeps_below HB30.out).trans hR.2.1).trans (keeps_below HB33.out)).trans (KeepsOthers.setCell _ _ _)).from _
                · exact kpH_t (kpH_t (kpH_t (kpH_below hbx HB30.out) hR.1) (kpH_below hv1.lt HB33.out)) (kpH_set (p := ⟨x11, 0, none⟩) H11.out (by decide) (fun e => ne _ _ _ (by decide) hv1 (show b = x11 from e.symm)) _)
                · have := H11.out.set (.int .i64 ((kk : Int) + 1))
                  have e : (((pre ++ [(s1, s2)]).length : Nat) : Int) = (kk : Int) + 1 := by rw [List.length_append, HK.out.1]; rfl
                  rw [e]; exact this
                · exact Nat.le_trans (Nat.le_trans hBB.2.2.2.1 (Nat.le_trans HB30.out.size H31.out.2.size)) (Nat.le_trans HB33.out.size (KeepsOthers.setCell _ _ _).size)
                · exact ((hBB.2.2.2.2.trans (HB30.out.mono hBB.2.2.2.2.size)).trans (hR.2.2.2.2.trans (HB33.out.mono hsz))).setCell (p := ⟨x11, 0, none⟩) hx11 _
              · subst h1
                have h2' : ¬ (s2 = a2) := h2
                gi_upto_region 25 with fail
                refine region_in (by kernel_rfl) (by kernel_rfl) (fun ⟨_, _, h⟩ => h) ?_
                refine Ph.at_quiet 24 (by kernel_rfl) ?_
                simp only [List.take_succ_cons, List.take_zero, List.drop_succ_cons, List.drop_zero]
                repeat ((first | (apply Ph.wpPh_g; (focus (intro wx hS0; have hz := below_call (below_drew (Below.refl w31.heap.size w31)) hS0; have c11 := (box_below H5.out.2.2.2.1 hz).cell; have c9' := (box_below H5.out.2.2.1 hz).cell; have cX := hp_cell (hp_below hz H5.out.2.2.2.2.2); have y1 := cell_below hz HY.out.1; have y2 := cell_below hz HY.out.2; go_simp; first | exact rfl | exact ⟨rfl, Below.refl _ _⟩)))); simp only [Act.put, List.setIfInBounds_toArray, List.set_cons_zero, List.set_cons_succ])
                refine Ph.wpPh_nil ?_; intro w33 hS33
                refine Ph.at_end (by simp) ?_
                have HB33 := Lib.hid (below_call (below_drew (Below.refl w31.heap.size w31)) hS33); clear hS33
                have hb4 := box_below H5.out.1 HB33.out
                have c4 := hb4.cell
                have f4 := hb4.frozen
                clear hb4
                gi_wp2
                exact ⟨((((keeps_below HB30.out).trans H31b.out.2.1).trans (keeps_below HB33.out)).trans (KeepsOthers.setCell _ _ _)).from _, not_pre (by rw [HK.out.1]; exact HK.out.2.1) (by simp [h2])⟩
            · have h1' : ¬ (s1 = a1) := h1
              gi_upto_region 25 with fail
              refine region_in (by kernel_rfl) (by kernel_rfl) (fun ⟨_, _, h⟩ => h) ?_
              refine Ph.at_quiet 24 (by kernel_rfl) ?_
              simp only [List.take_succ_cons, List.take_zero, List.drop_succ_cons, List.drop_zero]
              repeat ((first | (apply Ph.wpPh_g; (focus (intro wx hS0; have hz := below_call (below_drew (Below.refl w31.heap.size w31)) hS0; have c11 := (box_below H5.out.2.2.2.1 hz).cell; have c9' := (box_below H5.out.2.2.1 hz).cell; have cX := hp_cell (hp_below hz H5.out.2.2.2.2.2); have y1 := cell_below hz HY.out.1; have y2 := cell_below hz HY.out.2; go_simp; first | exact rfl | exact ⟨rfl, Below.refl _ _⟩)))); simp only [Act.put, List.setIfInBounds_toArray, List.set_cons_zero, List.set_cons_succ])
              refine Ph.wpPh_nil ?_; intro w33 hS33
              refine Ph.at_end (by simp) ?_
              have HB33 := Lib.hid (below_call (below_drew (Below.refl w31.heap.size w31)) hS33); clear hS33
              have hb4 := box_below H5.out.1 HB33.out
              have c4 := hb4.cell
              have f4 := hb4.frozen
              clear hb4
              gi_wp2
              exact ⟨((((keeps_below HB30.out).trans H31b.out.2.1).trans (keeps_below HB33.out)).trans (KeepsOthers.setCell _ _ _)).from _, not_pre (by rw [HK.out.1]; exact HK.out.2.1) (by simp [h1])⟩
          case done =>
            intro D W hD hI hK
            obtain ⟨⟨v, hb, hrow, hbb⟩, hr4, hx5, hx9, hx11, hrow9, hN, hB⟩ := hI
            rw [HNL.out.1] at hx11
            have c11 := hx11.cell
            have c9' := hx9.cell
            have c4' := hr4.cell
            have f4' := hr4.frozen
            have HB := Lib.hid hB
            clear hb hrow hbb hr4 hx5 hx9 hx11 hrow9 hN hB
            go_wp2
            have hK' := (KeepsOthers.setCell W ⟨r4, 0, none⟩ (.bool true)).same D _ hK rfl
            refine ⟨by simp, .inl ⟨_, _, rfl, run_takeDeferred hK', ?_⟩⟩
            have hc5 := cell_kept (World.cell?_setCell_same' W ⟨r4, 0, none⟩ (.bool true) (by rw [c4']; rfl)) (grownBy_putObj' _ D (.deferred none)) (fun r e => by cases e; exact ⟨_, hK', rfl⟩)
            refine ⟨.bool true, ?_, rfl, (HB.out.setCell (p := ⟨r4, 0, none⟩) (by have := HR4.out; show w.heap.size ≤ r4; omega) _).trans (belowK_b (w := w) (Nat.le_refl _) _ D _ _ (by have := hw27.size; omega) hK' rfl rfl)⟩
            simp [results, Try.f7, go_sem, hc5]
          case stop =>
            intro D c pre W _ hp hx _
            exact (hx hp).elim
end Go.Proofs.Ytnofclmnjhkhiaa
