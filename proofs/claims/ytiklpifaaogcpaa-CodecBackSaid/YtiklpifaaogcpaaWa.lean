/- A writer of bytes: contracts. -/
import Derived.Test.YtiklpifaaogcpaaProg
import Derived.Test.YtiklpifaaogcpaaCol
import Derived.Test.YtiklpifaaogcpaaPh
import Derived.Test.YtiklpifaaogcpaaWb
import Derived.WalkKit
import Derived.WalkLawsBesides
import Derived.WalkSpells
import Derived.Below
import Derived.Deep.RegionHeld3
import Derived.Deep.QuietTactic
import Derived.BigQuiet
import Derived.Deep.DeepCutAuto
import Derived.Deep.DeepMust
import Derived.KernelRfl
import Derived.Lib.Hide
import Derived.Outline
import Derived.RegionTactic
import Derived.StillTailTactics
import Derived.Laws.IdiomStrings
namespace Go.Proofs.Ytiklpifaaogcpaa
open Go.RowKit Go.Cl
set_option maxRecDepth 100000
set_option linter.unusedVariables false
set_option linter.unusedSimpArgs false

open Go.Wr
def encB (x : UInt8) : List Value := [.int .u8 x.toNat]
theorem encB_ok : Enc UInt8 encB 1 := ⟨fun _ => rfl, fun _ u hu => by simp [encB] at hu; subst hu; rfl⟩
theorem Try.info5 : (Try.prog.info? 5).map (fun i => (i.zero, i.size, i.bytes)) = some (some (.int .u8 0), 1, 1) := by kernel_rfl
/-- A writer in memory: its bytes lie in a row of its own. -/
structure Wri (col : Nat → Nat) (i : Nat) (w : World) (b : Nat) (L : List UInt8) : Prop where
  ex : ∃ v, Blk col i w b #[v] 59 ∧ Row col i w 5 1 v L.length (L.flatMap encB)
theorem Wri.kept {col col' : Nat → Nat} {i : Nat} {w w' : World} {b : Nat} {L : List UInt8} (h : Wri col i w b L) {S : List Nat} (hm : Mv S col w col' w') (hi : i ∉ S) : Wri col' i w' b L := by
  obtain ⟨v, hb, hr⟩ := h
  exact ⟨v, hb.kept hm hi, hr.kept hm hi⟩
theorem Wri.below {col : Nat → Nat} {i : Nat} {w w' : World} {b : Nat} {L : List UInt8} (h : Wri col i w b L) (hb' : Below w.heap.size w w') : Wri col i w' b L := h.kept (Mv.of_below (S := []) (col := col) hb') (by simp)
theorem Wri.painted {col : Nat → Nat} {i : Nat} {w w' : World} {b : Nat} {L : List UInt8} (h : Wri col i w b L) (hb' : Below w.heap.size w w') : Wri (paint col w i) i w' b L := by
  obtain ⟨v, hb, hr⟩ := h
  exact ⟨v, hb.below hb', hr.below hb'⟩
theorem wr_put (col : Nat → Nat) (i : Nat) (w : World) (b : Nat) (L : List UInt8) (h : Wri col i w b L) (a : Addr) (M : List UInt8) (c : Nat) (hM : ∀ j u, (M.flatMap encB)[j]? = some u → w.cell? (a.add j) = some u) (hs : L.length + M.length ≤ 140737488355328) :
    Calls Try.prog 98 #[.pointer (some ⟨b, 0, none⟩), .slice (some a) M.length c] w fun e w' => e = .returned (.tuple #[]) ∧ Wri (paint col w i) i w' b (L ++ M) ∧ Ch col i w w' := by
  obtain ⟨i0, hi, hz0, hz1, hz2⟩ := info_parts Try.info5
  obtain ⟨v, hb, hr⟩ := h
  have hne := hr.ne hb.hp (by decide)
  have HS := Lib.hid hs; clear hs
  have HM := Lib.hid hM; clear hM
  obtain ⟨p, c0, rfl⟩ := hr.form
  have cb := hp_cell hb.hp
  have fb := hp_free hb.hp
  go_enter Try.func98, Try.ntmps98
  go_wp2_with (at_builtin; refine wpList_append_col rfl (.tmp 8) (.tmp 9) 53 rfl 5 i0 (.int .u8 0) 1 1 Try.underlying53 hi hz0 hz1 hz2 rfl (by decide) _ L.length (L.flatMap encB) rfl hr a M.length c (M.flatMap encB) rfl (encB_ok.length _) HM.out (encB_ok.ones _) ?c3 ?c4 ?k)
  case c3 => have := HS.out; unfold maxLen; omega
  case c4 => have := HS.out; omega
  case k =>
    intro p' c' w1 hr1 hC hg
    have hb1 := hp_grown hb.hp hg (fun e => hne e.symm)
    have cb1 := hp_cell hb1
    have fb1 := hp_free hb1
    clear cb fb
    go_wp2
    refine bodyPost_end (results_none rfl _ _ _) rfl ?_
    refine ⟨rfl, ⟨_, ⟨hp_set hb1 _, paint_of hb.col⟩, ?_⟩, hC.setCell (paint_of hb.col) _⟩
    rw [List.flatMap_append, List.length_append]
    exact hr1.set (hr1.ne hb1 (by decide)) _

/-- What is known behind some rounds. -/
def NumInv (col : Nat → Nat) (i : Nat) (w : World) (b : Nat) (L : List UInt8) (Z : Nat) (t : Value) (wr : World) : Prop :=
  ∃ (u : Nat) (M : List UInt8), t = .int .u64 u ∧ u ≤ Z ∧ M ++ num u = num Z ∧ Wri (paint col w i) i wr b (L ++ M) ∧ Ch col i w wr
theorem cell_one (w : World) (x : Nat) (y : UInt8) (h : y.toNat = x) : ∀ j u, ([y].flatMap encB)[j]? = some u → (w.alloc (.cells #[.int .u8 x] 5)).cell? ((⟨w.heap.size, 0, none⟩ : Addr).add j) = some u := by
  subst h
  intro j u hj
  match j, hj with
  | 0, hj => simp [encB] at hj; subst hj; simp [Addr.add]
set_option maxHeartbeats 800000 in
theorem wr_num (col : Nat → Nat) (i : Nat) (w : World) (b : Nat) (L : List UInt8) (HW : Wri col i w b L) (n : Int) (n1 : -9223372036854775808 ≤ n) (n2 : n ≤ 9223372036854775807) (hs : L.length + (num (zz n)).length ≤ 140737488355328) :
    Calls Try.prog 95 #[.pointer (some ⟨b, 0, none⟩), .int .i64 n] w fun e w' => e = .returned (.tuple #[]) ∧ Wri (paint col w i) i w' b (L ++ num (zz n)) ∧ Ch col i w w' := by
  have HS := Lib.hid hs; clear hs
  have HZ := Lib.hid (zz_lt n1 n2)
  have HP := Lib.hid (fun h0 : ¬ n < 0 => sh_pos (by omega) n2)
  have HN := Lib.hid (fun h0 : n < 0 => sh_neg h0 n1)
  have H0 : Wri (paint col w i) i w b (L ++ []) := by rw [List.append_nil]; exact HW.painted (Below.refl _ _)
  clear n1 n2 HW
  generalize zz n = Z at *
  by_cases hn : n < 0
  all_goals
    go_enter Try.func95, Try.ntmps95
    go_wp2
    first | rw [HN.out hn] | rw [HP.out hn]
    clear HN HP
    go_loopw [4] (NumInv col i w b L Z) (fun t _ => (intOf t).toNat)
    case atStart => exact ⟨Z, [], rfl, Nat.le_refl _, rfl, H0, Ch.refl⟩
    case round =>
      obtain ⟨u, M, rfl, hu, hM, hW, hC⟩ := hrel
      clear H0
      by_cases hlt : u < 128
      · have hu8 : IntKind.u8.wrap (u : Int) = u := by rw [w_u8]; omega
        have hY := byt_nat (n := u) (by omega)
        have hLe := HS.out
        rw [← hM, num_lo hlt, List.length_append] at hLe
        rw [num_lo hlt] at hM
        go_wp2_with fail
        refine (wr_put (paint col w i) i _ b (L ++ M) (hW.below (below_alloc (Below.refl _ _) _)) ⟨_, 0, none⟩ [byt u] 1 (cell_one wr u (byt u) hY) (by rw [List.length_append]; omega)).mono ?_; rintro e w1 ⟨rfl, hW1, hC1⟩
        go_wp2
        refine bodyPost_end (results_none rfl _ _ _) rfl ?_
        have hC2 := hC.alloc (.cells #[.int .u8 u] 5)
        rw [paint_paint hC2.size] at hW1
        rw [List.append_assoc, hM] at hW1
        exact ⟨rfl, hW1, hC2.trans hC1⟩
      · have ho8 := or_128 (u % 256) (by omega)
        rw [show u % 256 % 128 = u % 128 by omega, show ((u % 256 : Nat) : Int) = (u : Int) % 256 by omega] at ho8
        have hY := byt_nat (n := 128 + u % 128) (by omega)
        have hLe := HS.out
        have h7 : (u : Int).fdiv (2 ^ min (Int.toNat 7) IntKind.u64.bits) = ((u / 128 : Nat) : Int) := by
          show (u : Int).fdiv 128 = _
          rw [Int.fdiv_eq_ediv_of_nonneg _ (by decide)]; omega
        rw [← hM, num_hi (by omega), List.length_append, List.length_cons] at hLe
        rw [num_hi (by omega)] at hM
        have HM := Lib.hid hM; clear hM
        have HLe := Lib.hid hLe; clear hLe
        go_wp2_with fail
        refine (wr_put (paint col w i) i _ b (L ++ M) (hW.below (below_alloc (Below.refl _ _) _)) ⟨_, 0, none⟩ [byt (128 + u % 128)] 1 (cell_one wr (128 + u % 128) (byt (128 + u % 128)) hY) (by have hLe := HLe.out; rw [List.length_append]; simp only [List.length_cons, List.length_nil]; omega)).mono ?_; rintro e w1 ⟨rfl, hW1, hC1⟩
        have hC2 := hC.alloc (.cells #[.int .u8 ((128 + u % 128 : Nat) : Int)] 5)
        rw [paint_paint hC2.size, List.append_assoc] at hW1
        clear ho8 HLe hY
        go_wp2
        go_roundw
        case rel => exact ⟨u / 128, M ++ [byt (128 + u % 128)], by go_num, by omega, by rw [List.append_assoc]; exact HM.out, hW1, hC2.trans hC1⟩
        case measure => simp [intOf]; omega

theorem conv_bytes (W : World) (s : ByteArray) : ∃ (C : Array Value) (c : Nat) (fr : Nat × Nat), (∀ (j : Nat) (u : Value), (s.data.toList.flatMap encB)[j]? = some u → C[j]? = some u) ∧
    (convert 9 53 (.string s)).run Try.prog W = .ok (.slice (some ⟨W.heap.size, 0, none⟩) s.size c) (W.drew.alloc (.cells C 5 fr)) := by
  have hrun := run_bytes_of_string W 9 53 5 s Try.underlying9 Try.underlying53 Try.underlying5
  refine ⟨bytesRow s (grownCap W s.size 0 5), _, _, ?_, hrun⟩
  intro j u hj
  have e : s.data.toList.flatMap encB = s.data.toList.map (fun b => Value.int .u8 b.toNat) := by
    rw [List.flatMap_eq_foldl]
    generalize s.data.toList = l
    rw [← List.flatMap_eq_foldl]
    induction l with
    | nil => rfl
    | cons x l ih => rw [List.flatMap_cons, ih]; rfl
  rw [e] at hj
  unfold bytesRow
  rw [Array.getElem?_append_left (by have := (List.getElem?_eq_some_iff.1 hj).1; simpa using this)]
  rw [← hj]; simp
theorem conv_row {col : Nat → Nat} {i : Nat} {w : World} {v : Value} {L : List UInt8} (hr : Row col i w 5 1 v L.length (L.flatMap encB)) (W : World) (hb : Below w.heap.size w W) :
    (convert 53 9 v).run Try.prog W = .ok (.string ⟨L.toArray⟩) W := by
  rcases hr.own.2 with ⟨rfl, h0⟩ | ⟨g, cap, cur, rfl, _, hg, hnc, hcm, hcs, htk⟩
  · obtain rfl : L = [] := List.eq_nil_of_length_eq_zero h0
    rw [run_convert_bytes_string W 53 9 5 none 0 0 Try.underlying53 Try.underlying5 Try.underlying9]
    simp [Conv.bytesToString]
    rfl
  · refine run_convert_bytes_back W 53 9 5 ⟨g, 0, none⟩ cap L Try.underlying53 Try.underlying5 Try.underlying9 ?_
    intro j hj
    have h1 := hr.cell (g := g) rfl (j := j) (u := .int .u8 L[j].toNat) (by have := encB_ok.get L j 0 hj (by decide); simpa [encB] using this)
    rw [Addr.add_lit, Nat.zero_add]
    exact cell_below hb h1
theorem wr_data (col : Nat → Nat) (i : Nat) (w : World) (b : Nat) (L : List UInt8) (HW : Wri col i w b L) :
    Calls Try.prog 21 #[.pointer (some ⟨b, 0, none⟩)] w fun e w' => e = .returned (.string ⟨L.toArray⟩) ∧ w = w' := by
  obtain ⟨v, hb, hr⟩ := HW
  have hcv := conv_row hr w (Below.refl _ _)
  obtain ⟨p, c0, rfl⟩ := hr.form
  have cb := hp_cell hb.hp
  go_enter Try.func21, Try.ntmps21
  go_wp2
  go_ret
  exact ⟨rfl, rfl⟩
theorem wr_bool (col : Nat → Nat) (i : Nat) (w : World) (b : Nat) (L : List UInt8) (HW : Wri col i w b L) (x : Bool) (hs : L.length + 1 ≤ 140737488355328) :
    Calls Try.prog 97 #[.pointer (some ⟨b, 0, none⟩), .bool x] w fun e w' => e = .returned (.tuple #[]) ∧ Wri (paint col w i) i w' b (L ++ bol x) ∧ Ch col i w w' := by
  have HS := Lib.hid hs; clear hs
  cases x
  · go_enter Try.func97, Try.ntmps97
    go_wp2_with fail
    refine (wr_put (paint col w i) i _ b L (HW.painted (below_alloc (Below.refl _ _) _)) ⟨_, 0, none⟩ [0] 1 (cell_one w 0 0 rfl) HS.out).mono ?_
    rintro e w1 ⟨rfl, hW1, hC1⟩
    go_wp2
    refine bodyPost_end (results_none rfl _ _ _) rfl ?_
    have hC2 := (Ch.refl (col := col) (i := i) (w := w)).alloc (.cells #[.int .u8 ((0 : Nat) : Int)] 5)
    rw [paint_paint hC2.size] at hW1
    exact ⟨rfl, hW1, hC2.trans hC1⟩
  · go_enter Try.func97, Try.ntmps97
    go_wp2_with fail
    refine (wr_put (paint col w i) i _ b L (HW.painted (below_alloc (Below.refl _ _) _)) ⟨_, 0, none⟩ [1] 1 (cell_one w 1 1 rfl) HS.out).mono ?_
    rintro e w1 ⟨rfl, hW1, hC1⟩
    go_wp2
    refine bodyPost_end (results_none rfl _ _ _) rfl ?_
    have hC2 := (Ch.refl (col := col) (i := i) (w := w)).alloc (.cells #[.int .u8 ((1 : Nat) : Int)] 5)
    rw [paint_paint hC2.size] at hW1
    exact ⟨rfl, hW1, hC2.trans hC1⟩
theorem wr_text (col : Nat → Nat) (i : Nat) (w : World) (b : Nat) (L : List UInt8) (HW : Wri col i w b L) (s : ByteArray) (hs0 : s.size ≤ maxLen) (hs : L.length + (txt s.data.toList).length ≤ 140737488355328) :
    Calls Try.prog 96 #[.pointer (some ⟨b, 0, none⟩), .string s] w fun e w' => e = .returned (.tuple #[]) ∧ Wri (paint col w i) i w' b (L ++ txt s.data.toList) ∧ Ch col i w w' := by
  have hl : s.data.toList.length = s.size := by simp
  unfold txt at hs ⊢
  rw [hl] at hs ⊢
  rw [List.length_append, hl] at hs
  have HS := Lib.hid hs; clear hs
  have HL := Lib.hid hl; clear hl
  unfold maxLen at hs0
  have HS0 := Lib.hid hs0; clear hs0
  go_enter Try.func96, Try.ntmps96
  go_wp2_with fail
  refine (wr_num col i w b L HW s.size (by omega) (by have := HS0.out; omega) (by have := HS.out; omega)).mono ?_
  rintro e w1 ⟨rfl, hW1, hC1⟩
  obtain ⟨C, c, fr, hC, hcv⟩ := conv_bytes w1 s
  have HC := Lib.hid hC; clear hC
  go_wp2_with fail
  clear hcv
  have hle : (L ++ num (zz s.size)).length + s.data.toList.length ≤ 140737488355328 := by have := HS.out; rw [List.length_append, HL.out]; omega
  refine (wr_put (paint col w i) i _ b (L ++ num (zz s.size)) (hW1.below (below_drew (below_alloc (Below.refl _ _) _))) ⟨_, 0, none⟩ s.data.toList c ?cells hle).mono ?_
  case cells =>
    intro j u hj
    rw [Addr.add_lit, Nat.zero_add]
    exact (hp_cell (hp_alloc_new w1 (.cells C 5 fr)) j).trans (HC.out j u hj)
  rintro e w2 ⟨rfl, hW2, hC2⟩
  clear hle
  go_wp2
  refine bodyPost_end (results_none rfl _ _ _) rfl ?_
  have hC3 := (hC1.alloc (.cells C 5 fr)).drew
  rw [paint_paint hC3.size, List.append_assoc] at hW2
  exact ⟨rfl, hW2, hC3.trans hC2⟩
end Go.Proofs.Ytiklpifaaogcpaa
