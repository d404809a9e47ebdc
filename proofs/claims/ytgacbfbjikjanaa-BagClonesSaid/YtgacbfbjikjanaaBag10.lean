/- Bags: BagClones. -/
import Derived.Test.YtgacbfbjikjanaaBag9
import Derived.WalkKit
import Derived.WalkLawsBesides
import Derived.WalkSpells
import Derived.Below
import Derived.Deep.RegionHeld3
import Derived.Deep.QuietTactic
import Derived.BigQuiet
import Derived.Deep.DeepCutAuto
import Derived.Deep.DeepMust
import Derived.KernelRfl
import Derived.Lib.Hide
import Derived.Outline
import Derived.RegionTactic
import Derived.StillTailTactics
namespace Go.Proofs.Ytgacbfbjikjanaa
open Go.RowKit Go.Cl Go.Rdr
set_option maxRecDepth 100000
set_option linter.unusedVariables false
set_option linter.unusedSimpArgs false


def ALLC : List Nat := [1, 2, 3, 4, 5, 6]
abbrev Opn := Int × Int × ByteArray
def ev1 (most : Int) (X : Opn) (st : List ByteArray × Int) : List ByteArray × Int := (evL X.1 X.2.1 X.2.2 st.1 most, evN X.1 X.2.1 st.1 most st.2)
def runL (most : Int) (l : List Opn) : List ByteArray × Int := l.foldl (fun st X => ev1 most X st) ([], 0)
theorem runL_succ (most : Int) (l : List Opn) (k : Nat) (hk : k < l.length) : runL most (l.take (k + 1)) = ev1 most l[k] (runL most (l.take k)) := by
  unfold runL
  rw [List.take_succ_eq_append_getElem hk, List.foldl_append]; rfl
/-- Two bags of two owners. -/
structure Two (w : World) (c r : Nat) (most : Int) (st : List ByteArray × Int) (col : Nat → Nat) (wr : World) : Prop where
  c : Bag 88 9 1 encS col 1 wr c st.1 most st.2
  r : Bag 34 9 1 encS col 2 wr r st.1 most st.2
  mv : Mv ALLC zc w col wr
structure Fou (w : World) (c r d s : Nat) (most : Int) (st su sv : List ByteArray × Int) (col : Nat → Nat) (wr : World) : Prop where
  c : Bag 88 9 1 encS col 1 wr c st.1 most st.2
  r : Bag 34 9 1 encS col 2 wr r st.1 most st.2
  d : Bag 88 9 1 encS col 3 wr d su.1 most su.2
  s : Bag 34 9 1 encS col 4 wr s sv.1 most sv.2
  mv : Mv ALLC zc w col wr
theorem Two.below {w : World} {c r : Nat} {most : Int} {st : List ByteArray × Int} {col : Nat → Nat} {wr wx : World} (h : Two w c r most st col wr) (hb : Below wr.heap.size wr wx) : Two w c r most st col wx :=
  ⟨h.c.below hb, h.r.below hb, h.mv.after_below hb⟩
theorem Fou.below {w : World} {c r d s : Nat} {most : Int} {st su sv : List ByteArray × Int} {col : Nat → Nat} {wr wx : World} (h : Fou w c r d s most st su sv col wr) (hb : Below wr.heap.size wr wx) : Fou w c r d s most st su sv col wx :=
  ⟨h.c.below hb, h.r.below hb, h.d.below hb, h.s.below hb, h.mv.after_below hb⟩
/-- A step of owners beside the four. -/
theorem Fou.beside {w : World} {c r d s : Nat} {most : Int} {st su sv : List ByteArray × Int} {col col' : Nat → Nat} {wr wx : World} (h : Fou w c r d s most st su sv col wr) {S : List Nat} (hm : Mv S col wr col' wx)
    (hS : ∀ x, x ∈ S → x ∈ [5, 6]) : Fou w c r d s most st su sv col' wx :=
  ⟨h.c.kept hm (fun x => by have := hS _ x; simp at this), h.r.kept hm (fun x => by have := hS _ x; simp at this), h.d.kept hm (fun x => by have := hS _ x; simp at this), h.s.kept hm (fun x => by have := hS _ x; simp at this),
   h.mv.trans (hm.sub (fun x hx => by have := hS _ hx; simp at this; rcases this with rfl | rfl <;> decide))⟩
theorem zc_all (w : World) : ∀ k, k < w.heap.size → zc k ∉ ALLC := fun k _ => by simp [zc, ALLC]
/-- The operation number k of a script, in a world behind. -/
theorem op_at {w wr : World} {base c : Nat} {p : Option Addr} {script : List Opn} (hs : SlIs w base 3 OpR (.slice p script.length c) script) (hb : Below w.heap.size w wr) (k : Nat) (hlt : k < script.length) :
    ∃ bs os, p = some ⟨bs, os, none⟩ ∧ wr.cell? ⟨bs, os + k * 3, none⟩ = some (.int .u8 script[k].1) ∧ wr.cell? ⟨bs, os + k * 3 + 1, none⟩ = some (.int .i64 script[k].2.1) ∧ wr.cell? ⟨bs, os + k * 3 + 2, none⟩ = some (.string script[k].2.2) ∧
      0 ≤ script[k].1 ∧ script[k].1 < 256 := by
  obtain ⟨bs, os, c', cs, hv, _, _, hcl, ⟨hcs, hK0, hK1⟩, hbs, hat⟩ := hs.at hb k hlt
  simp only [Value.slice.injEq] at hv
  obtain ⟨rfl, _, rfl⟩ := hv
  subst hcs
  exact ⟨bs, os, rfl, hat 0 (by omega), hat 1 (by omega), hat 2 (by omega), hK0, hK1⟩
def InvA (w : World) (c r : Nat) (most : Int) (a : List Opn) (t : Value) (wr : World) : Prop :=
  ∃ (k : Nat) (col : Nat → Nat), t = .int .i64 k ∧ k ≤ a.length ∧ Two w c r most (runL most (a.take k)) col wr
def InvB (w : World) (c r d s : Nat) (most : Int) (a : List Opn) (t : Value) (wr : World) : Prop :=
  ∃ (k : Nat) (col : Nat → Nat), t = .int .i64 k ∧ k ≤ a.length ∧ Fou w c r d s most (runL most a) (runL most a) (runL most (a.take k)) col wr
def InvC (w : World) (c r d s : Nat) (most : Int) (st : List ByteArray × Int) (p : Option Addr) (n cc : Nat) (t : Value) (wr : World) : Prop :=
  ∃ (k : Nat) (col : Nat → Nat) (X : List ByteArray), t = .int .i64 k ∧ k ≤ n ∧ X.length = n ∧ Row col 6 wr 9 1 (.slice p n cc) n (X.flatMap encS) ∧ Fou w c r d s most st st st col wr
def InvD (w : World) (c r d s : Nat) (most : Int) (st : List ByteArray × Int) (n : Nat) (u t : Value) (wr : World) : Prop :=
  ∃ (k m : Nat) (col : Nat → Nat) (X : List Value) (p : Option Addr) (cc : Nat), t = .int .i64 k ∧ k ≤ 9 ∧ m ≤ n + k ∧ u = .slice p m cc ∧ Row col 6 wr 9 1 (.slice p m cc) m X ∧ Fou w c r d s most st st st col wr
def InvE (w : World) (c r d s : Nat) (most : Int) (st : List ByteArray × Int) (n : Nat) (t : Value) (wr : World) : Prop :=
  ∃ (k : Nat) (col : Nat → Nat) (su : List ByteArray × Int), t = .int .i64 k ∧ k ≤ n ∧ Fou w c r d s most st su su col wr
attribute [local go_sem] max2_int min2_int max_two min_two
theorem bs_new_eq (w : World) (most : Int) : Calls Try.prog 13 #[.int .i64 most] w fun e w' => e = .returned (.pointer (some ⟨w.heap.size, 0, none⟩)) ∧ w' = w.alloc (.cells #[.slice none 0 0, .int .i64 (capOf most), .int .i64 0] 88) := by
  go_enter Try.func13, Try.ntmps13
  go_wp2
  go_ret
  exact ⟨rfl, rfl⟩
theorem _root_.Go.Cl.Row.store {col : Nat → Nat} {i : Nat} {w : World} {e n g c : Nat} {X : List ByteArray} (h : Row col i w e 1 (.slice (some ⟨g, 0, none⟩) n c) n (X.flatMap encS)) (hX : X.length = n) (k : Nat) (hk : k < n) (u : ByteArray) :
    Row col i (w.setCell ⟨g, k, none⟩ (.string u)) e 1 (.slice (some ⟨g, 0, none⟩) n c) n ((X.set k u).flatMap encS) := by
  obtain ⟨g', c', cur, hv, hg, hnc, hcm, hcs, htk, hgc⟩ := h.pos (by omega)
  simp only [Value.slice.injEq, Option.some.injEq, Addr.mk.injEq] at hv
  obtain ⟨⟨rfl, _, _⟩, _, rfl⟩ := hv
  refine Row.mk' (hp_set hg _) hnc hcm (by simpa using hcs) ?_ (by rw [encS_ok.length, List.length_set, hX]) hgc
  have e1 : ∀ Y : List ByteArray, Y.flatMap encS = Y.map Value.string := fun Y => by induction Y with | nil => rfl | cons y Y ih => simp [encS, ih]
  rw [e1] at htk ⊢
  rw [Array.toList_setIfInBounds, List.map_set, ← htk, List.take_set]
set_option maxHeartbeats 4000000 in
theorem bagClones (w : World) (base : Nat) (most : Int) (va vb : Value) (a b : List Opn) (hsa : SlIs w base 3 OpR va a) (hsb : SlIs w base 3 OpR vb b) :
    Calls Try.prog 8 #[.int .i64 most, va, vb] w fun e w' => e = .returned (.bool true) ∧ Below w.heap.size w w' := by
  obtain ⟨i0, hi, hz0, hz1, hz2⟩ := info_parts Try.info9
  obtain ⟨pa, ca, rfl, hla, hma⟩ := hsa.form
  obtain ⟨pb, cb, rfl, hlb, hmb⟩ := hsb.form
  unfold maxLen at hma hmb
  go_enter Try.func8, Try.ntmps8
  go_wp2_with fail
  refine (fixed_true w).mono ?_; rintro e w0 ⟨rfl, hb0⟩
  go_wp2_with fail
  refine (bs_new zc 1 w0 most).mono ?_; rintro e w1 ⟨c, rfl, hB, HC1, _⟩
  go_wp2_with fail
  refine (br_new (paint zc w0 1) 2 w1 most).mono ?_; rintro e w2 ⟨r, rfl, hR, HC2, _⟩
  have hT : Two w c r (capOf most) ([], 0) (paint (paint zc w0 1) w1 2) w2 := ⟨hB.kept HC2.mv (by simp), hR, ((Mv.of_below (S := ALLC) (col := zc) hb0).trans (HC1.mv' (by decide))).trans (HC2.mv' (by decide))⟩
  clear hB HC1 HC2 hR hb0
  go_wp2
  go_loopw [9] (fun t wr => InvA w c r (capOf most) a t wr) (fun t _ => a.length + 1 - (intOf t).toNat)
  case atStart => exact ⟨0, _, rfl, Nat.zero_le _, by simpa [runL] using hT⟩
  case round =>
    clear hT
    obtain ⟨k, col, rfl, hk, hT⟩ := hrel
    by_cases hlt : k < a.length
    · obtain ⟨bs, os, rfl, q0, q1, q2, hK0, hK1⟩ := op_at hsa (hT.mv.toBelow (zc_all w)) k hlt
      have hrun := Lib.hid (runL_succ (capOf most) a k hlt)
      generalize a[k] = X at *
      have hk0 : (0 : Int) ≤ (k : Int) := by omega
      go_wp2_with (go_at_call 15; refine (step_any 1 2 c r (by decide) (by decide) (by decide) col wr X.1 X.2.1 hK0 hK1 X.2.2 _ _ _ _ _ _ hT.c hT.r).mono ?_; rintro e w3 ⟨col', rfl, hB3, hR3, hM3⟩)
      go_roundw
      case rel => exact ⟨k + 1, col', by go_num, by omega, by rw [hrun.out]; exact ⟨hB3, hR3, hT.mv.trans (hM3.sub (by decide))⟩⟩
      case measure => simp [intOf]; omega
    · have hka : a.take k = a := List.take_of_length_le (by omega)
      rw [hka] at hT
      clear hka
      go_wp2_with fail
      refine (bs_clone col 1 wr c _ _ _ 3 hT.c).mono ?_; rintro e w3 ⟨d, rfl, hD, hb3⟩
      go_wp2_with fail
      refine (br_new (paint col wr 3) 4 w3 most).mono ?_; rintro e w4 ⟨s, rfl, hS4, HC4, _⟩
      have hF : Fou w c r d s (capOf most) (runL (capOf most) a) (runL (capOf most) a) ([], 0) (paint (paint col wr 3) w3 4) w4 :=
        ⟨(hT.c.kept (Mv.new (S := []) hb3 3) (by simp)).kept HC4.mv (by simp), (hT.r.kept (Mv.new (S := []) hb3 3) (by simp)).kept HC4.mv (by simp), hD.kept HC4.mv (by simp), hS4, (hT.mv.trans (Mv.new hb3 3)).trans (HC4.mv' (by decide))⟩
      clear hT hD hS4 HC4 hb3 hk
      go_wp2
      go_loopw [12] (fun t wr => InvB w c r d s (capOf most) a t wr) (fun t _ => a.length + 1 - (intOf t).toNat)
      case atStart => exact ⟨0, _, rfl, Nat.zero_le _, by simpa [runL] using hF⟩
      case round =>
        clear hF
        obtain ⟨k2, col2, rfl, hk2, hF⟩ := hrel
        by_cases hlt2 : k2 < a.length
        · obtain ⟨bs, os, rfl, q0, q1, q2, hK0, hK1⟩ := op_at hsa (hF.mv.toBelow (zc_all w)) k2 hlt2
          have hrun := Lib.hid (runL_succ (capOf most) a k2 hlt2)
          generalize a[k2] = X at *
          have hk0 : (0 : Int) ≤ (k2 : Int) := by omega
          go_wp2
          refine Ph.region_at (by kernel_rfl) ?_
          refine Ph.at_ghost 7 1 47 (fun g : Nat => Value.pointer (some ⟨g, 0, none⟩)) (fun g w1 => hp w1 g = some (.cells #[.slice none 0 0, .int .i64 (capOf most), .int .i64 0] 88 (0, 0)) ∧ wr.heap.size ≤ g) (fun g a b h hb => ⟨hp_below hb h.1, h.2⟩) (by kernel_rfl) (by kernel_rfl) (by decide) (by decide) rfl ?_
          simp only [List.take_succ_cons, List.take_zero, List.drop_succ_cons, List.drop_zero]
          (first | (apply Ph.wpGh_g (by decide); (focus (intro w1 hS0; have hb0 := below_call (below_drew (Below.refl wr.heap.size wr)) hS0; have d0 := cell_below hb0 q0; have d1 := cell_below hb0 q1; have d2 := cell_below hb0 q2; go_simp; first | exact rfl | exact ⟨rfl, Below.refl _ _⟩)))); simp only [Act.put, List.setIfInBounds_toArray, List.set_cons_zero, List.set_cons_succ]
          refine Ph.wpGh_e rfl ?_ ?_
          · intro w1 hS0; have hb0 := below_call (below_drew (Below.refl wr.heap.size wr)) hS0; have d0 := cell_below hb0 q0; have d1 := cell_below hb0 q1; have d2 := cell_below hb0 q2; go_simp; refine (bs_new_eq w1 most).mono ?_; rintro e w2 ⟨rfl, rfl⟩; exact ⟨_, rfl, _, rfl, below_alloc (Below.refl _ _) _, hp_alloc_new w1 _, hb0.size⟩
          (first | (apply Ph.wpGh_g (by decide); (focus (intro w1 hS0; have hb0 := below_call (below_drew (Below.refl wr.heap.size wr)) hS0; have d0 := cell_below hb0 q0; have d1 := cell_below hb0 q1; have d2 := cell_below hb0 q2; go_simp; first | exact rfl | exact ⟨rfl, Below.refl _ _⟩)))); simp only [Act.put, List.setIfInBounds_toArray, List.set_cons_zero, List.set_cons_succ]
          (first | (apply Ph.wpGh_g (by decide); (focus (intro w1 hS0; have hb0 := below_call (below_drew (Below.refl wr.heap.size wr)) hS0; have d0 := cell_below hb0 q0; have d1 := cell_below hb0 q1; have d2 := cell_below hb0 q2; go_simp; first | exact rfl | exact ⟨rfl, Below.refl _ _⟩)))); simp only [Act.put, List.setIfInBounds_toArray, List.set_cons_zero, List.set_cons_succ]
          (first | (apply Ph.wpGh_g (by decide); (focus (intro w1 hS0; have hb0 := below_call (below_drew (Below.refl wr.heap.size wr)) hS0; have d0 := cell_below hb0 q0; have d1 := cell_below hb0 q1; have d2 := cell_below hb0 q2; go_simp; first | exact rfl | exact ⟨rfl, Below.refl _ _⟩)))); simp only [Act.put, List.setIfInBounds_toArray, List.set_cons_zero, List.set_cons_succ]
          (first | (apply Ph.wpGh_g (by decide); (focus (intro w1 hS0; have hb0 := below_call (below_drew (Below.refl wr.heap.size wr)) hS0; have d0 := cell_below hb0 q0; have d1 := cell_below hb0 q1; have d2 := cell_below hb0 q2; go_simp; first | exact rfl | exact ⟨rfl, Below.refl _ _⟩)))); simp only [Act.put, List.setIfInBounds_toArray, List.set_cons_zero, List.set_cons_succ]
          (first | (apply Ph.wpGh_g (by decide); (focus (intro w1 hS0; have hb0 := below_call (below_drew (Below.refl wr.heap.size wr)) hS0; have d0 := cell_below hb0 q0; have d1 := cell_below hb0 q1; have d2 := cell_below hb0 q2; go_simp; first | exact rfl | exact ⟨rfl, Below.refl _ _⟩)))); simp only [Act.put, List.setIfInBounds_toArray, List.set_cons_zero, List.set_cons_succ]
          refine Ph.wpGh_nil ?_; intro g w2 hS2 hG; simp only [Act.put, List.setIfInBounds_toArray, List.set_cons_zero, List.set_cons_succ]
          refine Ph.at_op rfl (by kernel_rfl) ?_
          have hb2 := below_call (below_drew (Below.refl wr.heap.size wr)) hS2
          have hT2 : Bag 88 9 1 encS (paint col2 wr 5) 5 w2 g [] (capOf most) 0 := ⟨⟨.slice none 0 0, ⟨hG.1, paint_new hG.2⟩, Row.nil'⟩, capOf_lo _, capOf_hi _, by simpa using capOf_lo most⟩
          have hF2 := hF.beside (Mv.new (S := [5]) hb2 5) (by decide)
          go_wp2_with (go_at_call 15; refine (step_any 5 4 g s (by decide) (by decide) (by decide) _ w2 X.1 X.2.1 hK0 hK1 X.2.2 _ _ _ _ _ _ hT2 hF2.s).mono ?_; rintro e w3 ⟨col', rfl, _, hS3, hM3⟩)
          have hF3 : Fou w c r d s (capOf most) (runL (capOf most) a) (runL (capOf most) a) (ev1 (capOf most) X (runL (capOf most) (a.take k2))) col' w3 := ⟨hF2.c.kept hM3 (by simp), hF2.r.kept hM3 (by simp), hF2.d.kept hM3 (by simp), hS3, hF2.mv.trans (hM3.sub (by decide))⟩
          refine Ph.at_end (by simp) ?_
          go_wp2
          go_roundw
          case rel => exact ⟨k2 + 1, col', by go_num, by omega, by rw [hrun.out]; exact hF3⟩
          case measure => simp [intOf]; omega
        · have hka : a.take k2 = a := List.take_of_length_le (by omega)
          rw [hka] at hF
          clear hka
          generalize runL (capOf most) a = st at *
          go_wp2_with fail
          refine (bs_list col2 1 wr c _ _ _ 6 hF.c).mono ?_; rintro e w5 ⟨p5, c5, rfl, hr5, hb5⟩
          have hF5 := hF.beside (Mv.new (S := [6]) hb5 6) (by decide)
          have hn5 := hF.c.len
          have hh5 := hF.c.hi
          clear hF hb5
          generalize hcol5 : paint col2 wr 6 = col5 at hr5 hF5
          clear hcol5
          go_wp2
          clear hk2 hlt2
          go_loopw [14] (fun t wr => InvC w c r d s (capOf most) st p5 st.1.length c5 t wr) (fun t _ => st.1.length + 1 - (intOf t).toNat)
          case atStart => exact ⟨0, _, _, rfl, Nat.zero_le _, rfl, hr5, hF5⟩
          case round =>
            clear hr5 hF5
            obtain ⟨k3, col3, X, rfl, hk3, hX, hr, hF⟩ := hrel
            by_cases hlt3 : k3 < st.1.length
            · obtain ⟨g, c', cur, hv, hg, hnc, hcm, hcs, htk, hgc⟩ := hr.pos (by omega)
              simp only [Value.slice.injEq] at hv
              obtain ⟨rfl, _, rfl⟩ := hv
              have hst := hr.store hX k3 hlt3 ⟨#[119, 114, 105, 116, 116, 101, 110, 32, 111, 118, 101, 114]⟩
              have hCh : Ch col3 6 wr (wr.setCell ⟨g, k3, none⟩ (.string ⟨#[119, 114, 105, 116, 116, 101, 110, 32, 111, 118, 101, 114]⟩)) := Ch.refl.setCell (paint_of hgc) _
              have hF' := hF.beside hCh.mv (by decide)
              obtain ⟨x0, hcell⟩ : ∃ x, wr.cell? ⟨g, k3, none⟩ = some x := ⟨cur[k3]'(by omega), by rw [hp_cell hg]; simp⟩
              have hfree := hp_free hg k3
              have hk0 : (0 : Int) ≤ (k3 : Int) := by omega
              clear hF hr htk hg hcs
              go_wp2
              go_roundw
              case rel => exact ⟨k3 + 1, _, _, by go_num, by omega, by simpa using hX, hst.recol (fun q hq => by simp [Value.ownBlock] at hq; subst hq; exact paint_of hgc), hF'⟩
              case measure => simp [intOf]; omega
            · go_wp2
              clear hk3 hlt3
              go_loopw [13, 15] (fun u t wr => InvD w c r d s (capOf most) st st.1.length u t wr) (fun _ t _ => 10 - (intOf t).toNat)
              case atStart => exact ⟨0, _, _, _, _, _, rfl, by omega, Nat.le_refl _, rfl, hr, hF⟩
              case round =>
                clear hr hF hX
                obtain ⟨k4, m, col4, Xs, p6, c6, rfl, hk4, hm4, rfl, hr, hF⟩ := hrel
                have hm5 : m ≤ 5000 := by omega
                by_cases hlt4 : k4 < 9
                · have HB := below_alloc (Below.refl wr.heap.size wr) (.cells #[.string ⟨#[103, 114, 111, 119, 110]⟩] 9)
                  have hr' := hr.below HB
                  have hF' := hF.beside (Mv.new (S := [6]) HB 6) (by decide)
                  clear hF hr
                  go_wp2_with (at_builtin; refine wpList_append_col rfl (.tmp 71) (.tmp 72) 32 rfl 9 i0 (.string ⟨#[]⟩) 1 16 Try.underlying32 hi hz0 hz1 hz2 rfl (by decide) _ m Xs rfl hr' ⟨wr.heap.size, 0, none⟩ 1 1 (encS ⟨#[103, 114, 111, 119, 110]⟩) rfl rfl (one_cell wr _ _) ?c2 ?c3 ?c4 ?k)
                  case c2 => exact encS_ok.one _
                  case c3 => unfold maxLen; omega
                  case c4 => omega
                  case k =>
                    intro p7 c7 w6 hr6 hC6 hg6
                    have hF6 := hF'.beside hC6.mv (by decide)
                    go_wp2
                    go_roundw
                    case rel => exact ⟨k4 + 1, m + 1, _, _, p7, c7, by go_num, by omega, by omega, rfl, hr6, hF6⟩
                    case measure => simp [intOf]; omega
                · go_wp2
                  clear hk4 hlt4 hm4 hm5 hr
                  go_loopw [16] (fun t wr => InvE w c r d s (capOf most) st b.length t wr) (fun t _ => b.length + 1 - (intOf t).toNat)
                  case atStart => exact ⟨0, _, _, rfl, Nat.zero_le _, hF⟩
                  case round =>
                    clear hF
                    obtain ⟨k8, col8, su, rfl, hk8, hF⟩ := hrel
                    by_cases hlt8 : k8 < b.length
                    · obtain ⟨bs, os, rfl, q0, q1, q2, hK0, hK1⟩ := op_at hsb (hF.mv.toBelow (zc_all w)) k8 hlt8
                      generalize b[k8] = Y at *
                      have hk0 : (0 : Int) ≤ (k8 : Int) := by omega
                      go_wp2_with (go_at_call 15; refine (step_any 3 4 d s (by decide) (by decide) (by decide) col8 wr Y.1 Y.2.1 hK0 hK1 Y.2.2 _ _ _ _ _ _ hF.d hF.s).mono ?_; rintro e w9 ⟨col9, rfl, hD9, hS9, hM9⟩; rw [stB_same])
                      go_roundw
                      case rel => exact ⟨k8 + 1, col9, ev1 (capOf most) Y su, by go_num, by omega, ⟨hF.c.kept hM9 (by simp), hF.r.kept hM9 (by simp), hD9, hS9, hF.mv.trans (hM9.sub (by decide))⟩⟩
                      case measure => simp [intOf]; omega
                    · go_wp2
                      clear hk8 hlt8
                      obtain ⟨pr, cr, hr3, hrow3⟩ := hF.r.open
                      obtain ⟨ps, cs, hs3, hsrow3⟩ := hF.s.open
                      have hn1 : st.1.length ≤ 4096 := by have := hF.c.len; have := hF.c.hi; omega
                      have hn2 : su.1.length ≤ 4096 := by have := hF.d.len; have := hF.d.hi; omega
                      have hbd := below_drew (Below.refl wr.heap.size wr)
                      refine Ph.region_at (by kernel_rfl) ?_
                      refine Ph.at_ghost 6 1 89 (fun g : Option Addr × Nat => Value.slice g.1 st.1.length g.2) (fun g w1 => Row zc 0 w1 9 1 (.slice g.1 st.1.length g.2) st.1.length (st.1.flatMap encS)) (fun g a b h hb => h.below' hb) (by kernel_rfl) (by kernel_rfl) (by decide) (by decide) rfl ?_
                      simp only [List.take_succ_cons, List.take_zero, List.drop_succ_cons, List.drop_zero]
                      (first | (apply Ph.wpGh_g (by decide); (focus (intro w1 hS0; have hbq := below_call hbd hS0; have cr1 := hp_cell (hp_below hbq hr3); go_simp; first | exact rfl | exact ⟨rfl, Below.refl _ _⟩)))); simp only [Act.put, List.setIfInBounds_toArray, List.set_cons_zero, List.set_cons_succ]
                      refine Ph.wpGh_e rfl ?_ ?_
                      · intro w1 hS0; have hbq := below_call hbd hS0; have cr1 := hp_cell (hp_below hbq hr3); go_simp; refine (bs_list _ 1 w1 c _ _ _ 1 (hF.c.below hbq)).mono ?_; rintro e w2 ⟨p', c', rfl, hr', hb'⟩; exact ⟨_, rfl, p', c', rfl, hb', hr'.recol (fun _ _ => rfl)⟩
                      (first | (apply Ph.wpGh_g (by decide); (focus (intro w1 hS0; have hbq := below_call hbd hS0; have cr1 := hp_cell (hp_below hbq hr3); go_simp; first | exact rfl | exact ⟨rfl, Below.refl _ _⟩)))); simp only [Act.put, List.setIfInBounds_toArray, List.set_cons_zero, List.set_cons_succ]
                      (first | (apply Ph.wpGh_g (by decide); (focus (intro w1 hS0; have hbq := below_call hbd hS0; have cr1 := hp_cell (hp_below hbq hr3); go_simp; first | exact rfl | exact ⟨rfl, Below.refl _ _⟩)))); simp only [Act.put, List.setIfInBounds_toArray, List.set_cons_zero, List.set_cons_succ]
                      (first | (apply Ph.wpGh_g (by decide); (focus (intro w1 hS0; have hbq := below_call hbd hS0; have cr1 := hp_cell (hp_below hbq hr3); go_simp; first | exact rfl | exact ⟨rfl, Below.refl _ _⟩)))); simp only [Act.put, List.setIfInBounds_toArray, List.set_cons_zero, List.set_cons_succ]
                      (first | (apply Ph.wpGh_g (by decide); (focus (intro w1 hS0; have hbq := below_call hbd hS0; have cr1 := hp_cell (hp_below hbq hr3); go_simp; first | exact rfl | exact ⟨rfl, Below.refl _ _⟩)))); simp only [Act.put, List.setIfInBounds_toArray, List.set_cons_zero, List.set_cons_succ]
                      refine Ph.wpGh_nil ?_; intro g1 w2 hS2 hG1; simp only [Act.put, List.setIfInBounds_toArray, List.set_cons_zero, List.set_cons_succ]
                      refine Ph.at_op rfl (by kernel_rfl) ?_
                      have hb2 := below_call hbd hS2
                      go_wp2_with (go_at_call 18; refine (same_true _ _ _ _ _ _ _ st.1 st.1.length rfl (by omega) hG1 (hrow3.below' hb2)).mono ?_; rintro e w3 ⟨rfl, hb3⟩)
                      replace hb3 := below_call hb2 hb3
                      refine Ph.at_ghost 14 9 97 (fun g : Option Addr × Nat => Value.slice g.1 su.1.length g.2) (fun g w1 => Row zc 0 w1 9 1 (.slice g.1 su.1.length g.2) su.1.length (su.1.flatMap encS)) (fun g a b h hb => h.below' hb) (by kernel_rfl) (by kernel_rfl) (by decide) (by decide) rfl ?_
                      simp only [List.take_succ_cons, List.take_zero, List.drop_succ_cons, List.drop_zero]
                      (first | (apply Ph.wpGh_g (by decide); (focus (intro w1 hS0; have hbq := below_call hb3 hS0; have cr1 := hp_cell (hp_below hbq hs3); go_simp; first | exact rfl | exact ⟨rfl, Below.refl _ _⟩)))); simp only [Act.put, List.setIfInBounds_toArray, List.set_cons_zero, List.set_cons_succ]
                      (first | (apply Ph.wpGh_g (by decide); (focus (intro w1 hS0; have hbq := below_call hb3 hS0; have cr1 := hp_cell (hp_below hbq hs3); go_simp; first | exact rfl | exact ⟨rfl, Below.refl _ _⟩)))); simp only [Act.put, List.setIfInBounds_toArray, List.set_cons_zero, List.set_cons_succ]
                      refine Ph.wpGh_e rfl ?_ ?_
                      · intro w1 hS0; have hbq := below_call hb3 hS0; have cr1 := hp_cell (hp_below hbq hs3); go_simp; refine (bs_list _ 3 w1 d _ _ _ 1 (hF.d.below hbq)).mono ?_; rintro e w2 ⟨p', c', rfl, hr', hb'⟩; exact ⟨_, rfl, p', c', rfl, hb', hr'.recol (fun _ _ => rfl)⟩
                      (first | (apply Ph.wpGh_g (by decide); (focus (intro w1 hS0; have hbq := below_call hb3 hS0; have cr1 := hp_cell (hp_below hbq hs3); go_simp; first | exact rfl | exact ⟨rfl, Below.refl _ _⟩)))); simp only [Act.put, List.setIfInBounds_toArray, List.set_cons_zero, List.set_cons_succ]
                      (first | (apply Ph.wpGh_g (by decide); (focus (intro w1 hS0; have hbq := below_call hb3 hS0; have cr1 := hp_cell (hp_below hbq hs3); go_simp; first | exact rfl | exact ⟨rfl, Below.refl _ _⟩)))); simp only [Act.put, List.setIfInBounds_toArray, List.set_cons_zero, List.set_cons_succ]
                      (first | (apply Ph.wpGh_g (by decide); (focus (intro w1 hS0; have hbq := below_call hb3 hS0; have cr1 := hp_cell (hp_below hbq hs3); go_simp; first | exact rfl | exact ⟨rfl, Below.refl _ _⟩)))); simp only [Act.put, List.setIfInBounds_toArray, List.set_cons_zero, List.set_cons_succ]
                      (first | (apply Ph.wpGh_g (by decide); (focus (intro w1 hS0; have hbq := below_call hb3 hS0; have cr1 := hp_cell (hp_below hbq hs3); go_simp; first | exact rfl | exact ⟨rfl, Below.refl _ _⟩)))); simp only [Act.put, List.setIfInBounds_toArray, List.set_cons_zero, List.set_cons_succ]
                      refine Ph.wpGh_nil ?_; intro g2 w5 hS5 hG2; simp only [Act.put, List.setIfInBounds_toArray, List.set_cons_zero, List.set_cons_succ]
                      refine Ph.at_op rfl (by kernel_rfl) ?_
                      have hb5 := below_call hb3 hS5
                      go_wp2_with (go_at_call 18; refine (same_true _ _ _ _ _ _ _ su.1 su.1.length rfl (by omega) hG2 (hsrow3.below' hb5)).mono ?_; rintro e w6 ⟨rfl, hb6⟩)
                      replace hb6 := below_call hb5 hb6
                      refine Ph.at_quiet 35 (by kernel_rfl) ?_
                      simp only [List.take_succ_cons, List.take_zero, List.drop_succ_cons, List.drop_zero]
                      repeat ((first | (apply Ph.wpPh_g; (focus (intro w1 hS0; have hbq := below_call hb6 hS0; have cr1 := hp_cell (hp_below hbq hs3); have cr2 := hp_cell (hp_below hbq hr3); go_simp; first | exact rfl | exact ⟨rfl, Below.refl _ _⟩ | ((go_at_call 17; refine (bs_lost _ 3 _ d _ _ _ (hF.d.below hbq)).mono ?_; rintro e w' ⟨rfl, rfl⟩; exact ⟨rfl, Below.refl _ _⟩)) | ((go_at_call 17; refine (bs_lost _ 1 _ c _ _ _ (hF.c.below hbq)).mono ?_; rintro e w' ⟨rfl, rfl⟩; exact ⟨rfl, Below.refl _ _⟩)))))); simp only [Act.put, List.setIfInBounds_toArray, List.set_cons_zero, List.set_cons_succ])
                      refine Ph.wpPh_nil ?_; intro w7 hS7
                      refine Ph.at_end (by simp) ?_
                      go_wp2
                      go_ret
                      exact ⟨rfl, below_call (hF.mv.toBelow (zc_all w)) (below_call hb6 hS7)⟩

end Go.Proofs.Ytgacbfbjikjanaa
