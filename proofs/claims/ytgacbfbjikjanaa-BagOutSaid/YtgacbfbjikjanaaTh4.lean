/- BagDoubles. -/
import Derived.Test.YtgacbfbjikjanaaTh3
import Derived.Test.YtgacbfbjikjanaaBag6
import Derived.Test.YtgacbfbjikjanaaRdr
import Derived.WalkKit
import Derived.WalkLawsBesides
import Derived.WalkSpells
import Derived.Below
import Derived.Deep.RegionHeld3
import Derived.Deep.QuietTactic
import Derived.BigQuiet
import Derived.Deep.DeepCutAuto
import Derived.Deep.DeepMust
import Derived.KernelRfl
import Derived.Lib.Hide
import Derived.Outline
import Derived.RegionTactic
import Derived.StillTailTactics
namespace Go.Proofs.Ytgacbfbjikjanaa
open Go.RowKit Go.Cl
set_option maxRecDepth 100000
set_option linter.unusedVariables false
set_option linter.unusedSimpArgs false


open Go.Rdr
attribute [local go_sem] max2_int min2_int max_two min_two
def ThR (x : Thg) (cs : List Value) : Prop := cs = [.int .i64 x.1, .string x.2]
abbrev BagT := Bag 91 43 2 encT
def DbInv (w : World) (b : Nat) (l : List Thg) (x : Value) (wr : World) : Prop := ∃ (k : Nat) (c : Nat → Nat), x = .int .i64 k ∧ k ≤ l.length ∧ k ≤ 4095 ∧ BagT c 1 wr b (l.take k) 4096 0 ∧ Mv [1, 2, 3] zc w c wr
def Db2 (w8 : World) (n : Nat) (x : Value) (wr : World) : Prop := ∃ k : Nat, x = .int .i64 k ∧ k ≤ n ∧ Below w8.heap.size w8 wr
/-- Three rows that read as the same things. -/
theorem zc3 (w : World) : ∀ k, k < w.heap.size → zc k ∉ [1, 2, 3] := fun k _ => by simp [zc]
theorem row_at {c : Nat → Nat} {i : Nat} {w : World} {p : Option Addr} {n cp : Nat} {L : List Thg} (h : Row c i w 43 2 (.slice p n cp) n (L.flatMap encT)) (k : Nat) (hk : k < L.length) (hn : L.length = n) :
    ∃ g, p = some ⟨g, 0, none⟩ ∧ w.cell? ⟨g, k * 2, none⟩ = some (.int .i64 L[k].1) ∧ w.cell? ⟨g, k * 2 + 1, none⟩ = some (.string L[k].2) := by
  obtain ⟨g, c', cur, hv, hg, _, _, _, htk, _⟩ := h.pos (by omega)
  simp only [Value.slice.injEq] at hv
  obtain ⟨rfl, _, rfl⟩ := hv
  have h0 := encT_ok.get L k 0 hk (by decide)
  have h1 := encT_ok.get L k 1 hk (by decide)
  refine ⟨g, rfl, ?_, ?_⟩
  · exact h.cell (g := g) rfl (by rw [Nat.add_zero] at h0; rw [h0]; rfl)
  · exact h.cell (g := g) rfl (by rw [h1]; rfl)
set_option maxHeartbeats 2000000 in
theorem bagDoubles (w : World) (base : Nat) (v : Value) (l : List Thg) (hs : SlIs w base 2 ThR v l) (I : Int) :
    Calls Try.prog 5 #[v, .int .i64 I] w fun e w' => e = .returned (.bool true) ∧ Below w.heap.size w w' := by
  obtain ⟨p, c, rfl, hlc, hcm⟩ := hs.form
  unfold maxLen at hcm
  have HSW := Lib.hid hs; clear hs
  go_enter Try.func5, Try.ntmps5
  go_wp2_with (first | (go_at_call 12; refine (fixed_true _).mono ?_; rintro e w0 ⟨rfl, hb0⟩) | (go_at_call 20; refine (bt_new zc 1 w0).mono ?_; rintro e w1 ⟨b, rfl, hB, hC⟩))
  have hM := (Mv.of_below (S := [1, 2, 3]) (col := zc) hb0).trans (hC.mv' (by simp))
  go_loopw [6] (DbInv w b l) (fun t _ => l.length + 1 - (intOf t).toNat)
  case atStart => exact ⟨0, _, rfl, Nat.zero_le _, Nat.zero_le _, hB, hM⟩
  case round =>
    clear hB hC hM
    obtain ⟨k, c1, rfl, hk, hk2, hB, hM⟩ := hrel
    have hbw := hM.toBelow (zc3 w)
    by_cases hlt : k < l.length ∧ k < 4095
    · obtain ⟨hlt, hk3⟩ := hlt
      have hs := HSW.out
      obtain ⟨bs, os, c', cs, hv, _, _, hcl, hcs, hbs, hat⟩ := hs.at hbw k hlt
      simp only [Value.slice.injEq] at hv
      obtain ⟨rfl, _, rfl⟩ := hv
      have hcs' : cs = [.int .i64 l[k].1, .string l[k].2] := hcs
      subst hcs'
      have q0 := hat 0 (by omega)
      have q1 := hat 1 (by omega)
      simp only [List.getElem?_cons_zero, List.getElem?_cons_succ, Nat.add_zero] at q0 q1
      clear hs hcs hat hcl
      have hsn : l.take (k + 1) = l.take k ++ [l[k]] := List.take_succ_eq_append_getElem hlt
      have hl : (l.take k).length = k := by simp; omega
      generalize l[k] = X at *
      have hput := bt_put_room c1 1 wr b (l.take k) 4096 0 X hB (by rw [hl]; omega)
      rw [← hsn] at hput
      have HPUT := Lib.hid hput
      clear hput hl hsn
      go_wp2_with (go_at_call 21; refine HPUT.out.mono ?_; rintro e w2 ⟨rfl, hB2, hC2⟩)
      go_roundw
      case rel => exact ⟨k + 1, _, by go_num, by omega, by omega, hB2, hM.trans (hC2.mv' (by simp))⟩
      case measure => simp [intOf]; omega
    · have hmin : min (l.length : Int) 4095 = (k : Int) := by omega
      have HLL : Hid (k ≤ l.length) := Lib.hid hk
      have hl : (l.take k).length = k := by simp; omega
      have HTK : Hid (∀ j, j < k → (l.take k)[j]? = l[j]?) := Lib.hid (fun j h => by rw [List.getElem?_take, if_pos h])
      generalize l.take k = L at *
      subst hl
      have HMIN := Lib.hid hmin; clear hmin
      have hnl : ¬ L.length < l.length ∨ (L.length < l.length ∧ ¬ L.length < 4095) := by omega
      have hL95 : (L.length : Int) < 4096 := by omega
      have HL95 := Lib.hid hL95
      clear hlt hk hk2 hL95
      rcases hnl with hnl | ⟨hnl1, hnl2⟩
      all_goals
        go_wp2_with fail
        refine (bt_list c1 1 wr b L 4096 0 2 hB).mono ?_; rintro e w2 ⟨p2, cp2, rfl, hR2, hb2⟩
        have hB2 := hB.kept (Mv.new (S := []) hb2 2) (by simp)
        have hM2 := hM.trans (Mv.new (S := [1, 2, 3]) hb2 2)
        generalize paint c1 wr 2 = c2 at hB2 hM2 hR2
        clear hB hM hb2 hbw
        go_wp2_with fail
        by_cases hin : 0 ≤ I ∧ I < (L.length : Int)
        · obtain ⟨j, rfl⟩ : ∃ j : Nat, I = j := ⟨I.toNat, by omega⟩
          have hj : j < L.length := by omega
          have h25 := bt_at c2 1 w2 b L 4096 0 hB2 j hj
          have h26 := fun (c3 : Nat → Nat) W (h : BagT c3 1 W b L 4096 0) => bt_double_room c3 1 W b L 4096 0 h j hj HL95.out
          obtain ⟨m, hm⟩ : ∃ m, L[j] = m := ⟨_, rfl⟩
          rw [hm] at h25 h26
          have H26 := Lib.hid h26
          clear h26 hin hj hm
          refine h25.mono ?_; rintro e w3 ⟨rfl, hb3⟩
          have hb4 := below_alloc hb3 (.cells #[.int .i64 m.1, .string m.2] 43)
          have hx8 := hp_alloc_new w3 (.cells #[.int .i64 m.1, .string m.2] 43)
          have hc8 : paint c2 w2 0 w3.heap.size = 0 := paint_new hb3.size
          have hB4 := hB2.kept (Mv.new (S := []) hb4 0) (by simp)
          have hR4 := hR2.kept (Mv.new (S := []) hb4 0) (by simp)
          have hM4 := hM2.trans (Mv.new (S := [1, 2, 3]) hb4 0)
          generalize paint c2 w2 0 = c4 at hB4 hR4 hM4 hc8
          clear hB2 hR2 hM2 hb4 h25
          go_wp2_with fail
          refine (H26.out c4 _ hB4).mono ?_; rintro e w5 ⟨rfl, hB5, hC5⟩
          have hR5 := hR4.kept hC5.mv (by simp)
          have hM5 := hM4.trans (hC5.mv' (by simp))
          have hx85 := hp_ch hx8 hC5 (by rw [hc8]; decide)
          have hc85 : paint c4 (w3.alloc (.cells #[.int .i64 m.1, .string m.2] 43)) 1 w3.heap.size = 0 := by rw [paint_old (hp_lt hx8)]; exact hc8
          generalize paint c4 (w3.alloc (.cells #[.int .i64 m.1, .string m.2] 43)) 1 = c5 at hB5 hR5 hM5 hc85
          clear hB4 hR4 hM4 hx8 hc8 hC5 hb3
          generalize w3.heap.size = x8 at *
          go_wp2_with fail
          have h23 := bt_take c5 1 w5 b (L ++ [m]) 4096 0 hB5 L.length (by simp)
          rw [List.getElem_append_right (Nat.le_refl _)] at h23
          simp only [Nat.sub_self, List.getElem_cons_zero] at h23
          rw [show (L ++ [m]).eraseIdx L.length = L from by rw [List.eraseIdx_append_of_length_le (Nat.le_refl _)]; simp] at h23
          refine h23.mono ?_; rintro e w6 ⟨rfl, hB6, hC6⟩
          have hR6 := hR5.kept hC6.mv (by simp)
          have hM6 := hM5.trans (hC6.mv' (by simp))
          have hx86 := hp_ch hx85 hC6 (by rw [hc85]; decide)
          generalize paint c5 w5 1 = c6 at hB6 hR6 hM6
          clear hB5 hR5 hM5 hx85 hc85 hC6 h23 H26
          have hb7 := below_alloc (Below.refl w6.heap.size w6) (.cells #[.int .i64 m.1, .string m.2] 43)
          have hB7 := hB6.kept (Mv.new (S := []) hb7 0) (by simp)
          have hR7 := hR6.kept (Mv.new (S := []) hb7 0) (by simp)
          have hM7 := hM6.trans (Mv.new (S := [1, 2, 3]) hb7 0)
          generalize paint c6 w6 0 = c7 at hB7 hR7 hM7
          have cx8 := hp_cell (hp_alloc_old hx86 (.cells #[.int .i64 m.1, .string m.2] 43))
          clear hB6 hR6 hM6 hb7
          go_wp2_with fail
          clear cx8 hx86
          refine (bt_list c7 1 _ b L 4096 0 3 hB7).mono ?_; rintro e w8 ⟨p3, cp3, rfl, hR8, hb8⟩
          have hR9 := hR7.kept (Mv.new (S := []) hb8 3) (by simp)
          have hM9 := hM7.trans (Mv.new (S := [1, 2, 3]) hb8 3)
          have hbw9 := hM9.toBelow (zc3 w)
          clear hB7 hR7 hM7 hM9 hb8
          have hmin := HMIN.out
          go_wp2_with fail
          clear hmin
          go_loopw [13] (Db2 w8 L.length) (fun t _ => L.length + 1 - (intOf t).toNat)
          case atStart => exact ⟨0, rfl, Nat.zero_le _, Below.refl _ _⟩
          case round =>
            obtain ⟨k, rfl, hk, hbr⟩ := hrel
            by_cases hlt : k < L.length
            · obtain ⟨g3, rfl, a0, a1⟩ := row_at hR8 k hlt rfl
              obtain ⟨g2, rfl, d0, d1⟩ := row_at hR9 k hlt rfl
              have hs := HSW.out
              have hbwr := below_call hbw9 hbr
              have hkl : k < l.length := by have := HLL.out; omega
              obtain ⟨bs, os, c', cs, hv, _, _, hcl, hcs, hbs, hat⟩ := hs.at hbwr k hkl
              simp only [Value.slice.injEq] at hv
              obtain ⟨rfl, _, rfl⟩ := hv
              have hcs' : cs = [.int .i64 l[k].1, .string l[k].2] := hcs
              subst hcs'
              have q0 := hat 0 (by omega)
              have q1 := hat 1 (by omega)
              simp only [List.getElem?_cons_zero, List.getElem?_cons_succ, Nat.add_zero] at q0 q1
              have e : l[k] = L[k] := by have := HTK.out k hlt; rw [List.getElem?_eq_getElem hlt, List.getElem?_eq_getElem hkl] at this; exact (Option.some.inj this).symm
              rw [e] at q0 q1
              clear e hs hcs hat hcl
              generalize L[k] = X at *
              replace a0 := cell_below hbr a0; replace a1 := cell_below hbr a1
              replace d0 := cell_below hbr d0; replace d1 := cell_below hbr d1
              go_wp2
              refine Ph.region_at (by kernel_rfl) ?_
              refine Ph.at_quiet 20 (by kernel_rfl) ?_
              simp only [List.take_succ_cons, List.take_zero, List.drop_succ_cons, List.drop_zero]
              repeat ((first | (apply Ph.wpPh_g; (focus (intro w1 hS0; have hq := below_call (below_drew (Below.refl _ _)) hS0; have e0 := cell_below hq a0; have e1 := cell_below hq a1; have e2 := cell_below hq d0; have e3 := cell_below hq d1; have e4 := cell_below hq q0; have e5 := cell_below hq q1; go_simp; first | exact rfl | exact ⟨rfl, Below.refl _ _⟩)))); simp only [Act.put, List.setIfInBounds_toArray, List.set_cons_zero, List.set_cons_succ])
              refine Ph.wpPh_nil ?_; intro w9 hS9
              refine Ph.at_end (by simp) ?_
              have hb9 := below_call (below_drew hbr) hS9
              clear a0 a1 d0 d1 q0 q1 hbr hS9 hbwr
              go_wp2
              go_roundw
              case rel => exact ⟨k + 1, by go_num, by omega, hb9⟩
              case measure => simp [intOf]; omega
            · go_wp2
              go_ret
              exact ⟨rfl, below_call hbw9 hbr⟩
        · have hin2 : I < 0 ∨ (L.length : Int) ≤ I := by omega
          clear hin
          refine (bt_at_no c2 1 w2 b L 4096 0 hB2 I hin2).mono ?_; rintro e w3 ⟨rfl, hb3⟩
          have hb4 := below_alloc hb3 (.cells #[.int .i64 0, .string ⟨#[]⟩] 43)
          have hB4 := hB2.kept (Mv.new (S := []) hb4 0) (by simp)
          have hR4 := hR2.kept (Mv.new (S := []) hb4 0) (by simp)
          have hM4 := hM2.trans (Mv.new (S := [1, 2, 3]) hb4 0)
          generalize paint c2 w2 0 = c4 at hB4 hR4 hM4
          clear hB2 hR2 hM2 hb4
          go_wp2_with fail
          refine (bt_double_no c4 1 _ b L 4096 0 hB4 I hin2).mono ?_; rintro e w5 ⟨rfl, hb5⟩
          have hB7 := hB4.kept (Mv.new (S := []) hb5 0) (by simp)
          have hR7 := hR4.kept (Mv.new (S := []) hb5 0) (by simp)
          have hM7 := hM4.trans (Mv.new (S := [1, 2, 3]) hb5 0)
          generalize paint c4 (w3.alloc (.cells #[.int .i64 0, .string ⟨#[]⟩] 43)) 0 = c7 at hB7 hR7 hM7
          clear hB4 hR4 hM4 hb5 hb3 hin2
          go_wp2_with fail
          refine (bt_list c7 1 _ b L 4096 0 3 hB7).mono ?_; rintro e w8 ⟨p3, cp3, rfl, hR8, hb8⟩
          have hR9 := hR7.kept (Mv.new (S := []) hb8 3) (by simp)
          have hM9 := hM7.trans (Mv.new (S := [1, 2, 3]) hb8 3)
          have hbw9 := hM9.toBelow (zc3 w)
          clear hB7 hR7 hM7 hM9 hb8
          have hmin := HMIN.out
          go_wp2_with fail
          clear hmin
          go_loopw [13] (Db2 w8 L.length) (fun t _ => L.length + 1 - (intOf t).toNat)
          case atStart => exact ⟨0, rfl, Nat.zero_le _, Below.refl _ _⟩
          case round =>
            obtain ⟨k, rfl, hk, hbr⟩ := hrel
            by_cases hlt : k < L.length
            · obtain ⟨g3, rfl, a0, a1⟩ := row_at hR8 k hlt rfl
              obtain ⟨g2, rfl, d0, d1⟩ := row_at hR9 k hlt rfl
              have hs := HSW.out
              have hbwr := below_call hbw9 hbr
              have hkl : k < l.length := by have := HLL.out; omega
              obtain ⟨bs, os, c', cs, hv, _, _, hcl, hcs, hbs, hat⟩ := hs.at hbwr k hkl
              simp only [Value.slice.injEq] at hv
              obtain ⟨rfl, _, rfl⟩ := hv
              have hcs' : cs = [.int .i64 l[k].1, .string l[k].2] := hcs
              subst hcs'
              have q0 := hat 0 (by omega)
              have q1 := hat 1 (by omega)
              simp only [List.getElem?_cons_zero, List.getElem?_cons_succ, Nat.add_zero] at q0 q1
              have e : l[k] = L[k] := by have := HTK.out k hlt; rw [List.getElem?_eq_getElem hlt, List.getElem?_eq_getElem hkl] at this; exact (Option.some.inj this).symm
              rw [e] at q0 q1
              clear e hs hcs hat hcl
              generalize L[k] = X at *
              replace a0 := cell_below hbr a0; replace a1 := cell_below hbr a1
              replace d0 := cell_below hbr d0; replace d1 := cell_below hbr d1
              go_wp2
              refine Ph.region_at (by kernel_rfl) ?_
              refine Ph.at_quiet 20 (by kernel_rfl) ?_
              simp only [List.take_succ_cons, List.take_zero, List.drop_succ_cons, List.drop_zero]
              repeat ((first | (apply Ph.wpPh_g; (focus (intro w1 hS0; have hq := below_call (below_drew (Below.refl _ _)) hS0; have e0 := cell_below hq a0; have e1 := cell_below hq a1; have e2 := cell_below hq d0; have e3 := cell_below hq d1; have e4 := cell_below hq q0; have e5 := cell_below hq q1; go_simp; first | exact rfl | exact ⟨rfl, Below.refl _ _⟩)))); simp only [Act.put, List.setIfInBounds_toArray, List.set_cons_zero, List.set_cons_succ])
              refine Ph.wpPh_nil ?_; intro w9 hS9
              refine Ph.at_end (by simp) ?_
              have hb9 := below_call (below_drew hbr) hS9
              clear a0 a1 d0 d1 q0 q1 hbr hS9 hbwr
              go_wp2
              go_roundw
              case rel => exact ⟨k + 1, by go_num, by omega, hb9⟩
              case measure => simp [intOf]; omega
            · go_wp2
              go_ret
              exact ⟨rfl, below_call hbw9 hbr⟩

end Go.Proofs.Ytgacbfbjikjanaa
