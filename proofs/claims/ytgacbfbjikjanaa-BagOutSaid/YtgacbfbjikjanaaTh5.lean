/- BagOut. -/
import Derived.Test.YtgacbfbjikjanaaTh4
import Derived.Test.YtgacbfbjikjanaaBo
import Derived.Laws.MakeOwn
import Derived.WalkKit
import Derived.WalkLawsBesides
import Derived.WalkSpells
import Derived.Below
import Derived.Deep.RegionHeld3
import Derived.Deep.QuietTactic
import Derived.BigQuiet
import Derived.Deep.DeepCutAuto
import Derived.Deep.DeepMust
import Derived.KernelRfl
import Derived.Lib.Hide
import Derived.Outline
import Derived.RegionTactic
import Derived.StillTailTactics
namespace Go.Proofs.Ytgacbfbjikjanaa
open Go.RowKit Go.Cl
set_option maxRecDepth 100000
set_option linter.unusedVariables false
set_option linter.unusedSimpArgs false


open Go.Rdr
attribute [local go_sem] max2_int min2_int max_two min_two
/-- What lies in the bag: the things of the places idx. -/
def thingAt (l : List Thg) (i : Nat) : Thg := ((i : Int), (l.getD i (0, ⟨#[]⟩)).2)
def things (l : List Thg) (idx : List Nat) : List Thg := idx.map (thingAt l)
theorem things_erase (l : List Thg) : ∀ (idx : List Nat) (d : Nat), (things l idx).eraseIdx d = things l (idx.eraseIdx d)
  | [], d => by simp [things]
  | y :: t, 0 => by simp [things]
  | y :: t, d + 1 => by
    have := things_erase l t d
    simp only [things, List.map_cons, List.eraseIdx_cons_succ] at this ⊢
    rw [this]
def PuInv (w : World) (b : Nat) (l : List Thg) (x : Value) (wr : World) : Prop := ∃ (k : Nat) (c : Nat → Nat) (q : Int), x = .int .i64 k ∧ k ≤ l.length ∧ BagT c 1 wr b (things l (List.range (min k 4096))) 4096 q ∧ Mv [1, 2, 3] zc w c wr
theorem Try.info4 : (Try.prog.info? 4).map (fun i => (i.zero, i.size, i.bytes)) = some (some (.bool false), 1, 1) := by kernel_rfl
def bools (o : List Bool) : Array Value := (o.map Value.bool).toArray
theorem bools_set (o : List Bool) (x : Nat) : (bools o).setIfInBounds x (.bool true) = bools (o.set x true) := by
  unfold bools
  simp only [List.setIfInBounds_toArray]
  rw [List.map_set]
theorem bools_get {w : World} {g : Nat} {o : List Bool} (h : hp w g = some (.cells (bools o) 4 (0, 0))) {x : Nat} {u : Bool} (hx : o[x]? = some u) : w.cell? ⟨g, x, none⟩ = some (.bool u) := by
  rw [hp_cell h]; unfold bools; simp [hx]
open Go.Bo in
def TkInv (w : World) (b g : Nat) (l : List Thg) (P : List Int) (n : Nat) (x : Value) (wr : World) : Prop :=
  ∃ (k : Nat) (c : Nat → Nat) (q : Int) (idx : List Nat) (out : List Bool), x = .int .i64 k ∧ k ≤ P.length ∧ BagT c 1 wr b (things l idx) 4096 q ∧ hp wr g = some (.cells (bools out) 4 (0, 0)) ∧ c g = 2 ∧ OutOk n idx out ∧ Mv [1, 2, 3] zc w c wr
open Go.Bo in
def LsInv (w : World) (g : Nat) (l : List Thg) (n : Nat) (idx : List Nat) (v : Value) (last x : Value) (wr : World) : Prop :=
  ∃ (k : Nat) (lst : Int) (out : List Bool) (c : Nat → Nat), last = .int .i64 lst ∧ x = .int .i64 k ∧ k ≤ idx.length ∧ Row c 3 wr 43 2 v idx.length ((things l idx).flatMap encT) ∧ hp wr g = some (.cells (bools out) 4 (0, 0)) ∧ c g = 2 ∧ OutOk n (idx.drop k) out ∧ (∀ y ∈ idx.drop k, lst < (y : Int)) ∧ Mv [1, 2, 3] zc w c wr
theorem made_bools (n : Nat) : Go.madeCells (Value.bool false).cells (n * 1) = bools (List.replicate n false) := by
  unfold Go.madeCells bools
  apply Array.ext
  · simp
  · intro i h1 h2
    simp [Value.cells, Nat.mod_one]
theorem make_bools (W : World) (n : Nat) (hn : n ≤ 4096) : (Instr.makeSlice 45 (.int .i64 (n : Int)) (.int .i64 (n : Int))).run Try.prog W = .ok (.slice (some ⟨W.heap.size, 0, none⟩) n n) (W.alloc (.cells (bools (List.replicate n false)) 4)) := by
  obtain ⟨i0, hi, hz0, hz1, hz2⟩ := info_parts Try.info4
  have h := run_make (P := Try.prog) W 45 4 i0 (.bool false) Try.underlying45 hi hz0 .i64 .i64 n n (by omega) (Int.le_refl _) (by rw [hz2]; omega) (by omega)
  rw [hz1] at h
  simp only [Int.toNat_natCast, made_bools] at h
  exact h
set_option maxHeartbeats 2000000 in
theorem bagOut (w : World) (base base2 : Nat) (v v2 : Value) (l : List Thg) (P : List Int) (hs : SlIs w base 2 ThR v l) (hs2 : SlIs w base2 1 (fun (x : Int) cs => cs = [.int .i64 x]) v2 P) :
    Calls Try.prog 4 #[v, v2] w fun e w' => e = .returned (.bool true) ∧ Below w.heap.size w w' := by
  obtain ⟨p, c, rfl, hlc, hcm⟩ := hs.form
  obtain ⟨pP, cP, rfl, hlc2, hcm2⟩ := hs2.form
  unfold maxLen at hcm hcm2
  have HSW := Lib.hid hs; clear hs
  have HSP := Lib.hid hs2; clear hs2
  go_enter Try.func4, Try.ntmps4
  go_wp2_with (first | (go_at_call 12; refine (fixed_true _).mono ?_; rintro e w0 ⟨rfl, hb0⟩) | (go_at_call 20; refine (bt_new zc 1 w0).mono ?_; rintro e w1 ⟨b, rfl, hB, hC⟩))
  have hM := (Mv.of_below (S := [1, 2, 3]) (col := zc) hb0).trans (hC.mv' (by simp))
  go_loopw [6] (PuInv w b l) (fun t _ => l.length + 1 - (intOf t).toNat)
  case atStart => exact ⟨0, _, 0, rfl, Nat.zero_le _, hB, hM⟩
  case round =>
    clear hB hC hM
    obtain ⟨k, c1, q, rfl, hk, hB, hM⟩ := hrel
    have hbw := hM.toBelow (zc3 w)
    by_cases hlt : k < l.length
    · have hs := HSW.out
      obtain ⟨bs, os, c', cs, hv, _, _, hcl, hcs, hbs, hat⟩ := hs.at hbw k hlt
      simp only [Value.slice.injEq] at hv
      obtain ⟨rfl, _, rfl⟩ := hv
      have hcs' : cs = [.int .i64 l[k].1, .string l[k].2] := hcs
      subst hcs'
      have q0 := hat 0 (by omega)
      have q1 := hat 1 (by omega)
      simp only [List.getElem?_cons_zero, List.getElem?_cons_succ, Nat.add_zero] at q0 q1
      clear hs hcs hat hcl
      have hth : thingAt l k = ((k : Int), l[k].2) := by unfold thingAt; rw [List.getD_eq_getElem?_getD, List.getElem?_eq_getElem hlt]; rfl
      have hlen : (things l (List.range (min k 4096))).length = min k 4096 := by simp [things]
      by_cases hroom : k < 4096
      · have hput := bt_put_room c1 1 wr b _ 4096 q (thingAt l k) hB (by rw [hlen]; omega)
        have hnew : things l (List.range (min k 4096)) ++ [thingAt l k] = things l (List.range (min (k + 1) 4096)) := by
          rw [show min k 4096 = k by omega, show min (k + 1) 4096 = k + 1 by omega, List.range_succ]; simp [things]
        rw [hnew, hth] at hput
        have HPUT := Lib.hid hput
        clear hput hlen hth hnew
        generalize l[k] = X at *
        have hr2 : (k : Int) < 4096 := by omega
        go_wp2_with (go_at_call 21; refine HPUT.out.mono ?_; rintro e w2 ⟨rfl, hB2, hC2⟩)
        go_roundw
        case rel => exact ⟨k + 1, _, _, by go_num, by omega, hB2, hM.trans (hC2.mv' (by simp))⟩
        case measure => simp [intOf]; omega
      · have hput := bt_put_full c1 1 wr b _ 4096 q (thingAt l k) hB (by rw [hlen]; omega)
        have hnew : things l (List.range (min k 4096)) = things l (List.range (min (k + 1) 4096)) := by
          rw [show min k 4096 = 4096 by omega, show min (k + 1) 4096 = 4096 by omega]
        rw [hnew, hth] at hput
        have HPUT := Lib.hid hput
        clear hput hlen hth hnew
        generalize l[k] = X at *
        have hr2 : ¬ (k : Int) < 4096 := by omega
        go_wp2_with (go_at_call 21; refine HPUT.out.mono ?_; rintro e w2 ⟨rfl, hB2, hC2⟩)
        go_roundw
        case rel => exact ⟨k + 1, _, _, by go_num, by omega, hB2, hM.trans (hC2.mv' (by simp))⟩
        case measure => simp [intOf]; omega
    · have hkn : k = l.length := by omega
      subst hkn
      clear hlt hk
      obtain ⟨n, hn⟩ : ∃ n, min l.length 4096 = n := ⟨_, rfl⟩
      rw [hn] at hB
      have hmin : min (l.length : Int) 4096 = (n : Int) := by omega
      have hn1 : n ≤ 4096 := by omega
      have hn2 : n ≤ l.length := by omega
      have hn3 : (n : Int) ≤ 4096 := by omega
      have HN := Lib.hid hn1; have HN2 := Lib.hid hn2
      clear hn hn1 hn2
      have hmk := make_bools wr n HN.out
      go_wp2
      clear hmin hmk
      have hbA := below_alloc (Below.refl wr.heap.size wr) (.cells (bools (List.replicate n false)) 4)
      have hB2 := hB.kept (Mv.new (S := []) hbA 2) (by simp)
      have hM2 := hM.trans (Mv.new (S := [1, 2, 3]) hbA 2)
      have hg2 := hp_alloc_new wr (.cells (bools (List.replicate n false)) 4)
      have hc2 : paint c1 wr 2 wr.heap.size = 2 := paint_new (Nat.le_refl _)
      clear hB hM hbA hbw
      generalize wr.heap.size = g at *
      go_loopw [9] (TkInv w b g l P n) (fun t _ => P.length + 1 - (intOf t).toNat)
      case atStart => exact ⟨0, _, q, List.range n, _, rfl, Nat.zero_le _, hB2, hg2, hc2, Go.Bo.OutOk.start n, hM2⟩
      case round =>
        clear hB2 hg2 hc2 hM2
        obtain ⟨k, c2, q2, idx, out, rfl, hk, hB, hg, hcg, hO, hM⟩ := hrel
        have hbw := hM.toBelow (zc3 w)
        have hlt := bt_len c2 1
        have hti : (things l idx).length = idx.length := by simp [things]
        have HB := Lib.hid hB
        have HLEN : Hid (∀ W, BagT c2 1 W b (things l idx) 4096 q2 → Calls Try.prog 22 #[.pointer (some ⟨b, 0, none⟩)] W fun e w' => e = .returned (.int .i64 idx.length) ∧ W = w') := Lib.hid (fun W h => by have := bt_len c2 1 W b _ _ _ h; rw [hti] at this; exact this)
        clear hlt hB
        by_cases hgo : k < P.length ∧ 0 < idx.length
        · obtain ⟨hkP, hpos⟩ := hgo
          obtain ⟨bs, os, c', cs, hv, _, _, hcl, hcs, hbs, hat⟩ := HSP.out.at hbw k hkP
          simp only [Value.slice.injEq] at hv
          obtain ⟨rfl, _, rfl⟩ := hv
          subst hcs
          have q0 := hat 0 (by omega)
          simp only [List.getElem?_cons_zero, Nat.add_zero, Nat.mul_one] at q0
          clear hat hcl
          obtain ⟨U, hU, hU0, hU1⟩ : ∃ U : Int, IntKind.u64.wrap P[k] = U ∧ 0 ≤ U ∧ U < 18446744073709551616 := ⟨_, rfl, by simp [IntKind.wrap, IntKind.bits, IntKind.signed]; omega, by simp [IntKind.wrap, IntKind.bits, IntKind.signed]; omega⟩
          generalize P[k] = pk at *
          have hm0 : (0 : Int) < (idx.length : Int) := by omega
          obtain ⟨d, hd, hdl⟩ : ∃ d : Nat, U % (idx.length : Int) = d ∧ d < idx.length := ⟨(U % (idx.length : Int)).toNat, by have := Int.emod_nonneg U (b := (idx.length : Int)) (by omega); omega, by have := Int.emod_lt_of_pos U hm0; have := Int.emod_nonneg U (b := (idx.length : Int)) (by omega); omega⟩
          have ht : U.tmod (idx.length : Int) = d := by rw [Int.tmod_eq_emod_of_nonneg hU0]; exact hd
          have hml : idx.length ≤ 4096 := by have := HB.out.len; rw [hti] at this; omega
          have hz1 : ¬ (idx.length : Int) = 0 := by omega
          have hz2 : ((idx.length : Int) == 0) = false := by rw [beq_eq_false_iff_ne]; omega
          have HU1 := Lib.hid hU1; clear hU1
          have hwd : IntKind.u64.wrap (d : Int) = d := by simp [IntKind.wrap, IntKind.bits, IntKind.signed]; omega
          have hd4 : (d : Int) ≤ 4096 := by omega
          have hwl : IntKind.u64.wrap (idx.length : Int) = idx.length := by simp [IntKind.wrap, IntKind.bits, IntKind.signed]; omega
          have hne : ¬ idx = [] := by intro e; rw [e] at hpos; simp at hpos
          have hwi : IntKind.i64.wrap (d : Int) = d := IntWalk.i64_in _ (by omega)
          go_wp2_with (go_at_call 22; refine (HLEN.out _ HB.out).mono ?_; rintro e w' ⟨rfl, rfl⟩)
          refine Ph.region_at (by kernel_rfl) ?_
          refine Ph.at_quiet 11 (by kernel_rfl) ?_
          simp only [List.take_succ_cons, List.take_zero, List.drop_succ_cons, List.drop_zero]
          repeat ((first | (apply Ph.wpPh_g; (focus (intro w1 hS0; have hq := below_call (below_drew (Below.refl _ _)) hS0; have e0 := cell_below hq q0; have hBq := HB.out.below hq; go_simp; first | exact rfl | exact ⟨rfl, Below.refl _ _⟩ | ((go_at_call 22; refine (HLEN.out _ hBq).mono ?_; rintro e w' ⟨rfl, rfl⟩; exact ⟨rfl, Below.refl _ _⟩)))))); simp only [Act.put, List.setIfInBounds_toArray, List.set_cons_zero, List.set_cons_succ])
          refine Ph.wpPh_nil ?_; intro w2 hS2
          refine Ph.at_end (by simp) ?_
          have hb2 := below_call (below_drew (Below.refl wr.heap.size wr)) hS2
          clear q0 hd ht hz1 hz2 hU hwl hwi hwd hne
          have hmem : idx[d] ∈ idx := List.getElem_mem _
          have hO2 := hO.take d hdl
          have hout := hO.no hmem
          have hxn := hO.lt _ hmem
          have h23 := bt_take c2 1 w2 b (things l idx) 4096 q2 (HB.out.below hb2) d (by rw [hti]; exact hdl)
          rw [show (things l idx)[d]'(by rw [hti]; exact hdl) = thingAt l idx[d] by simp [things], show (things l idx).eraseIdx d = things l (idx.eraseIdx d) from things_erase l idx d] at h23
          generalize idx[d] = x at *
          have hxl : x < l.length := by have := HN2.out; omega
          rw [show thingAt l x = ((x : Int), l[x].2) by unfold thingAt; rw [List.getD_eq_getElem?_getD, List.getElem?_eq_getElem hxl]; rfl] at h23
          have H23 := Lib.hid h23
          have HOUT := Lib.hid hout
          clear h23 hmem hout hti HLEN
          have hg2 := hp_below hb2 hg
          have hM2 := hM.after_below hb2
          go_wp2_with (go_at_call 23; refine H23.out.mono ?_; rintro e w3 ⟨rfl, hB3, hC3⟩)
          have hg3 := hp_ch hg2 hC3 (by rw [hcg]; decide)
          have hM3 := hM2.trans (hC3.mv' (S := [1, 2, 3]) (by simp))
          have hc3 : paint c2 w2 1 g = 2 := by rw [paint_old (hp_lt hg2)]; exact hcg
          generalize paint c2 w2 1 = c3 at hB3 hM3 hc3
          clear hg hM hg2 hM2 hC3 hb2 H23 hcg
          have hbx := below_alloc (Below.refl w3.heap.size w3) (.cells #[.int .i64 x, .string l[x].2] 43)
          have hx4 := hp_alloc_new w3 (.cells #[.int .i64 x, .string l[x].2] 43)
          have hg4 := hp_below hbx hg3
          have hB4 := hB3.kept (Mv.new (S := []) hbx 0) (by simp)
          have hM4 := hM3.trans (Mv.new (S := [1, 2, 3]) hbx 0)
          have hc4 : paint c3 w3 0 g = 2 := by rw [paint_old (hp_lt hg3)]; exact hc3
          generalize paint c3 w3 0 = c4 at hB4 hM4 hc4
          have hbw4 := hM4.toBelow (zc3 w)
          obtain ⟨bl, ol, cl, cs, hv, _, _, hcl, hcs, hbs, hat⟩ := HSW.out.at hbw4 x hxl
          simp only [Value.slice.injEq] at hv
          obtain ⟨rfl, _, rfl⟩ := hv
          have hcs' : cs = [.int .i64 l[x].1, .string l[x].2] := hcs
          subst hcs'
          have q1 := hat 1 (by omega)
          simp only [List.getElem?_cons_zero, List.getElem?_cons_succ, Nat.add_zero] at q1
          clear hcs hat hcl hB3 hM3 hg3 hc3 hbx hbw hbw4
          generalize l[x].2 = SS at *
          generalize w3.heap.size = x11 at *
          refine Ph.at_world ?_; intro W4 hW4
          rw [← hW4] at hx4 hg4 hB4 hM4 q1
          clear hW4
          refine Ph.region_at (by kernel_rfl) ?_
          refine Ph.at_quiet 31 (by kernel_rfl) ?_
          simp only [List.take_succ_cons, List.take_zero, List.drop_succ_cons, List.drop_zero]
          repeat ((first | (apply Ph.wpPh_g; (focus (intro w1 hS0; have hq := below_call (below_drew (Below.refl _ _)) hS0; have e0 := cell_below hq q1; have cx := hp_cell (hp_below hq hx4); have cg : w1.cell? ⟨g, x, none⟩ = some (.bool false) := bools_get (hp_below hq hg4) HOUT.out; go_simp; first | exact rfl | exact ⟨rfl, Below.refl _ _⟩)))); simp only [Act.put, List.setIfInBounds_toArray, List.set_cons_zero, List.set_cons_succ])
          refine Ph.wpPh_nil ?_; intro w5 hS5
          refine Ph.at_end (by simp) ?_
          have hb5 := below_call (below_drew (Below.refl W4.heap.size W4)) hS5
          have hg5 := hp_below hb5 hg4
          have hx5 := hp_below hb5 hx4
          have hB5 := hB4.below hb5
          have hM5 := hM4.after_below hb5
          have cx := hp_cell hx5
          have fg := hp_free hg5
          have cg : w5.cell? ⟨g, x, none⟩ = some (.bool false) := bools_get hg5 HOUT.out
          clear hg4 hx4 hB4 hM4 q1
          go_wp2
          have hCs := (Ch.refl (col := c4) (i := 2) (w := w5)).setCell (p := ⟨g, x, none⟩) (paint_of hc4) (.bool true)
          go_roundw
          case rel => exact ⟨k + 1, _, q2, idx.eraseIdx d, out.set x true, by go_num, by omega, hB5.kept hCs.mv (by simp), by rw [← bools_set]; exact hp_set hg5 _, paint_of hc4, hO2, hM5.trans (hCs.mv' (by simp))⟩
          case measure => simp [intOf]; omega
        · have hgo2 : ¬ k < P.length ∨ (k < P.length ∧ idx.length = 0) := by omega
          clear hgo hk
          have HO := Lib.hid hO; clear hO
          have HML : Hid (idx.length ≤ 4096) := Lib.hid (by have := HB.out.len; rw [hti] at this; omega)
          rcases hgo2 with hk | ⟨hk, hi0⟩
          all_goals
            go_wp2_with (go_at_call 22; refine (HLEN.out _ HB.out).mono ?_; rintro e w' ⟨rfl, rfl⟩)
            try clear hi0
            have h24 := bt_list c2 1 wr b (things l idx) 4096 q2 3 HB.out
            rw [hti] at h24
            refine h24.mono ?_; rintro e w8 ⟨p3, cp3, rfl, hR8, hb8⟩
            have hg8 := hp_below hb8 hg
            have hM8 := hM.trans (Mv.new (S := [1, 2, 3]) hb8 3)
            have hc8 : paint c2 wr 3 g = 2 := by rw [paint_old (hp_lt hg)]; exact hcg
            generalize paint c2 wr 3 = c8 at hR8 hM8 hc8
            clear hg hM hcg hb8 h24 HLEN HB hbw
            go_wp2_with fail
            go_loopw [14, 15] (LsInv w g l n idx (.slice p3 idx.length cp3)) (fun _ t _ => idx.length + 1 - (intOf t).toNat)
            case atStart => exact ⟨0, -1, out, c8, rfl, rfl, Nat.zero_le _, hR8, hg8, hc8, HO.out, fun y _ => by omega, hM8⟩
            case round =>
              clear hR8 hg8 hc8 hM8
              obtain ⟨k, lst, out', c9, rfl, rfl, hk2, hR, hg, hcg, hO, hls, hM⟩ := hrel
              have HO := Lib.hid hO; clear hO
              by_cases hlt : k < idx.length
              · obtain ⟨g3, rfl, a0, _⟩ := row_at hR k (by rw [hti]; exact hlt) hti
                have hd : idx.drop k = idx[k] :: idx.drop (k + 1) := List.drop_eq_getElem_cons hlt
                have hO2 := HO.out
                rw [hd] at hO2 hls
                rw [show (things l idx)[k]'(by rw [hti]; exact hlt) = thingAt l idx[k] by simp [things]] at a0
                have a1 : wr.cell? ⟨g3, k * 2, none⟩ = some (.int .i64 (idx[k] : Int)) := a0
                have hx1 := hls idx[k] (List.mem_cons_self)
                have hx2 := hO2.lt idx[k] (List.mem_cons_self)
                have hx3 := hO2.no (List.mem_cons_self)
                have hnx := hO2.next
                generalize idx[k] = x at *
                have hx4 : (x : Int) < (n : Int) := by omega
                have hx5 : (0 : Int) ≤ (x : Int) := by omega
                have cg : wr.cell? ⟨g, x, none⟩ = some (.bool false) := bools_get hg hx3
                have fg := hp_free hg
                have hk5 : (k : Int) ≤ 4096 := by have := HML.out; omega
                have HNX := Lib.hid hnx
                clear hd hO2 hls a0 hnx hx3
                go_wp2
                have hCs := (Ch.refl (col := c9) (i := 2) (w := wr)).setCell (p := ⟨g, x, none⟩) (paint_of hcg) (.bool true)
                go_roundw
                case rel => exact ⟨k + 1, (x : Int), out'.set x true, _, rfl, by go_num, by omega, hR.kept hCs.mv (by simp), by rw [← bools_set]; exact hp_set hg _, paint_of hcg, HNX.out.1, fun y hy => by have := HNX.out.2 y hy; omega, hM.trans (hCs.mv' (by simp))⟩
                case measure => simp [intOf]; omega
              · have hall : Go.Bo.OutOk n [] out' := by
                  have := HO.out
                  rw [List.drop_of_length_le (by omega)] at this
                  exact this
                have HALL := Lib.hid hall
                have hbw := hM.toBelow (zc3 w)
                clear hall hls HO hR hM
                go_wp2
                go_loop [16] (fun t => ∃ j : Nat, t = .int .i64 j ∧ j ≤ n) (fun t => n + 1 - (intOf t).toNat)
                case atStart => exact ⟨0, rfl, Nat.zero_le _⟩
                case round =>
                  obtain ⟨j, rfl, hj⟩ := hrel
                  by_cases hjn : j < n
                  · have hjb : (j : Int) ≤ 4096 := by have := HN.out; omega
                    have cg : wr.cell? ⟨g, j, none⟩ = some (.bool true) := bools_get hg (HALL.out.all j hjn)
                    go_wp2
                    go_round
                    case rel => exact ⟨j + 1, by go_num, by omega⟩
                    case measure => simp [intOf]; omega
                  · go_wp2
                    go_ret
                    exact ⟨rfl, hbw⟩

end Go.Proofs.Ytgacbfbjikjanaa
