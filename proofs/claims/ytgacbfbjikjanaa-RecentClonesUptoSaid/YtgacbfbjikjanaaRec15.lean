/- Recent: RecentHolds. -/
import Derived.Test.YtgacbfbjikjanaaRec14
import Derived.WalkKit
import Derived.WalkLawsBesides
import Derived.WalkSpells
import Derived.Below
import Derived.Deep.RegionHeld3
import Derived.Deep.QuietTactic
import Derived.BigQuiet
import Derived.Deep.DeepCutAuto
import Derived.Deep.DeepMust
import Derived.KernelRfl
import Derived.Lib.Hide
import Derived.Outline
import Derived.RegionTactic
import Derived.StillTailTactics
namespace Go.Proofs.Ytgacbfbjikjanaa
open Go.RowKit Go.Cl Go.Rdr
set_option maxRecDepth 100000
set_option linter.unusedVariables false
set_option linter.unusedSimpArgs false


def HdInv (w : World) (b R : Nat) (Ls : List (List ByteArray)) (key : ByteArray) (after : Int) (u t : Value) (wr : World) : Prop :=
  ∃ (k : Nat) (col : Nat → Nat) (L : List Mk) (since : Int), t = .int .i64 k ∧ k ≤ Ls.length ∧ u = .int .i64 (fstV (evN Ls k) key after) ∧ Rec col 1 wr b L R since k ∧ HInv R (evN Ls k) L since ∧ Mv [1] zc w col wr
def HeInv (Ls : List (List ByteArray)) (k : Nat) (ks : List ByteArray) (key : ByteArray) (after : Int) (w3 : World) (u t : Value) (wr : World) : Prop :=
  ∃ (j : Nat), t = .int .i64 j ∧ j ≤ ks.length ∧ u = .int .i64 (fstV (evN Ls k ++ (ks.take j).map (fun x => ((k : Int) + 1, x))) key after) ∧ wr = w3
theorem fst_step {Ls : List (List ByteArray)} {k j : Nat} {ks : List ByteArray} (key : ByteArray) (after : Int) (hj : j < ks.length) :
    fstV (evN Ls k ++ (ks.take (j + 1)).map (fun x => ((k : Int) + 1, x))) key after =
      if fstV (evN Ls k ++ (ks.take j).map (fun x => ((k : Int) + 1, x))) key after = 0 ∧ after < (k : Int) + 1 ∧ ks[j].toList = key.toList then (k : Int) + 1
      else fstV (evN Ls k ++ (ks.take j).map (fun x => ((k : Int) + 1, x))) key after := by
  rw [List.take_succ_eq_append_getElem hj, List.map_append, ← List.append_assoc]
  simp only [List.map_cons, List.map_nil]
  rw [fstV_snoc (fun m hm => ?_)]
  · simp [fM]
  · rw [List.mem_append] at hm
    rcases hm with hm | hm
    · exact (evN_mem hm).1
    · simp only [List.mem_map] at hm
      obtain ⟨x, _, rfl⟩ := hm
      simp only; omega
theorem keys_at {w wr : World} {base : Nat} {v : Value} {keys : List ByteArray} (h : SlIs w base 1 StrR v keys) (hb : Below w.heap.size w wr) (k : Nat) (hk : k < keys.length) :
    ∃ bs os c, v = .slice (some ⟨bs, os, none⟩) keys.length c ∧ wr.cell? ⟨bs, os + k, none⟩ = some (.string keys[k]) := by
  obtain ⟨bs, os, c, cs, hv, _, _, hcl, ⟨hR, _⟩, _, hat⟩ := h.at hb k hk
  have := hat 0 (by omega)
  rw [hR] at this
  exact ⟨bs, os, c, hv, by simpa using this⟩
theorem capR_small {most : Int} (h0 : 0 ≤ most) (h1 : most ≤ 255) : (capR most : Int) = most := by unfold capR; omega
set_option maxHeartbeats 4000000 in
theorem recentHolds (w : World) (base : Nat) (most after : Int) (hm0 : 0 ≤ most) (hm1 : most ≤ 255) (ha0 : 0 ≤ after) (ha1 : after ≤ 255) (v : Value) (Ls : List (List ByteArray)) (hs : LsIs w base v Ls) (key : ByteArray)
    (hl : Ls.length ≤ 1048576) (hks : ∀ k, (Ls.getD k []).length ≤ 1048576) :
    Calls Try.prog 7 #[.int .u8 most, v, .string key, .int .u8 after] w fun e w' => e = .returned (.bool true) ∧ Below w.heap.size w w' := by
  obtain ⟨p, c, rfl, hlc, hcm⟩ := hs.form
  unfold maxLen at hcm
  have hz0 : ∀ k, k < w.heap.size → zc k ∉ [1] := fun k _ => by simp [zc]
  have HS := Lib.hid hs
  have HK := Lib.hid hks
  have HL := Lib.hid hl
  clear hs hks hl
  go_enter Try.func7, Try.ntmps7
  go_wp2_with fail
  refine (fixed27 w).mono ?_; rintro e w0 ⟨rfl, hb0⟩
  go_wp2_with fail
  refine (rc_new zc 1 w0 most 0).mono ?_; rintro e w1 ⟨b, rfl, hB, HC1⟩
  have hM := (Mv.of_below (S := [1]) (col := zc) hb0).trans (HC1.mv' (by simp))
  have hB1 : Rec (paint zc w0 1) 1 w1 b [] (capR most) 0 ((0 : Nat) : Int) := hB
  clear hB HC1 hb0
  have hR := Lib.hid (capR_small hm0 hm1)
  generalize capR most = R at *
  generalize paint zc w0 1 = c0 at *
  go_wp2
  go_loopw [10, 11, 12] (fun u t _ wr => HdInv w b R Ls key after u t wr) (fun _ t _ _ => Ls.length + 1 - (intOf t).toNat)
  case atStart => exact ⟨0, _, [], 0, rfl, Nat.zero_le _, rfl, hB1, ⟨[], rfl, by simp, Or.inl ⟨rfl, rfl⟩⟩, hM⟩
  case round =>
    rename_i wr
    clear hB1 hM
    obtain ⟨k, col, L, since, rfl, hk, rfl, hB, hI, hM⟩ := hrel
    have hlen := hB.len
    by_cases hlt : k < Ls.length
    · obtain ⟨bs, os, pv, cv, rfl, q0, hsk⟩ := list_at HS.out (hM.toBelow hz0) k hlt
      have hnx := hI.next hlen
      have hq := HK.out k
      have hsu := evN_succ Ls k
      obtain ⟨_, _, hv', hcc, hcv⟩ := hsk.form
      simp only [Value.slice.injEq] at hv'
      obtain ⟨rfl, _, rfl⟩ := hv'
      unfold maxLen at hcv
      have hKK := Lib.hid ((keys_of hsk [1] (by simp)).mv hM (by simp))
      have q4 := fun (w3 : World) (q3 : Below w.heap.size w w3) => list_at HS.out q3 k hlt
      clear hI
      generalize Ls.getD k [] = ks at *
      have HSK := Lib.hid hsk; have HQ := Lib.hid hq; have HNX := Lib.hid hnx; have HSU := Lib.hid hsu; have HQ4 := Lib.hid q4
      clear hsk hq hnx hsu q4
      have hRU := Lib.hid (rc_note_ok col 1 wr b L R since k ((k : Int) + 1) _ ks hB (hKK.out.at (by simp)) (by omega) (by have := HL.out; omega))
      have HLEN := Lib.hid hlen; clear hlen hB
      go_wp2_with (go_at_call 33; refine hRU.out.mono ?_; rintro e w3 ⟨rfl, hB3, hC3⟩)
      have hM3 := hM.trans (hC3.mv' (by simp))
      have q3 := hM3.toBelow hz0
      obtain ⟨_, _, p3, c3, hp', q5, hsk3⟩ := HQ4.out w3 q3
      simp only [Option.some.injEq, Addr.mk.injEq, and_true] at hp'
      obtain ⟨rfl, rfl⟩ := hp'
      have HSK3 := Lib.hid hsk3; have HQ3 := Lib.hid q3
      clear q0 hRU hKK hsk3 q3 HSK
      go_loopw [10, 12] (fun u t w1 => HeInv Ls k ks key after w3 u t w1) (fun _ t _ => ks.length + 1 - (intOf t).toNat)
      case atStart => exact ⟨0, rfl, Nat.zero_le _, by simp, rfl⟩
      case round =>
        obtain ⟨j, rfl, hj, rfl, rfl⟩ := hrel
        by_cases hjl : j < ks.length
        · obtain ⟨b2, o2, c2, hv2, cj⟩ := keys_at HSK3.out HQ3.out j hjl
          simp only [Value.slice.injEq, true_and] at hv2
          obtain ⟨rfl, rfl⟩ := hv2
          have hf := fst_step (Ls := Ls) (k := k) key after hjl
          generalize ks[j] = x at *
          generalize fstV (evN Ls k ++ (ks.take j).map (fun x => ((k : Int) + 1, x))) key after = W at *
          have HF := Lib.hid hf; clear hf
          cases hs : x.toList == key.toList with
          | false =>
            have hs3 : ¬ (x.toList = key.toList) := by simpa using hs
            have HS3 := Lib.hid hs3; clear hs3
            go_wp2
            go_roundw
            case rel => exact ⟨j + 1, by go_num, by omega, by rw [HF.out]; rw [if_neg (fun h => HS3.out h.2.2)], rfl⟩
            case measure => simp [intOf]; omega
          | true =>
            have hs3 : x.toList = key.toList := by simpa using hs
            have HS3 := Lib.hid hs3; clear hs3
            by_cases hg : after < (k : Int) + 1
            · by_cases hW : W = 0
              · have hW' := Lib.hid hW
                subst hW
                have HG := Lib.hid hg
                go_wp2
                go_roundw
                case rel => exact ⟨j + 1, by go_num, by omega, by rw [HF.out]; rw [if_pos ⟨rfl, HG.out, HS3.out⟩], rfl⟩
                case measure => simp [intOf]; omega
              · have HW := Lib.hid hW
                go_wp2
                go_roundw
                case rel => exact ⟨j + 1, by go_num, by omega, by rw [HF.out]; rw [if_neg (fun h => HW.out h.1)], rfl⟩
                case measure => simp [intOf]; omega
            · have HG := Lib.hid hg
              go_wp2
              go_roundw
              case rel => exact ⟨j + 1, by go_num, by omega, by rw [HF.out]; rw [if_neg (fun h => HG.out h.2.1)], rfl⟩
              case measure => simp [intOf]; omega
        · obtain rfl : j = ks.length := by omega
          go_wp2
          go_roundw
          case rel => exact ⟨k + 1, _, _, _, by go_num, by omega, by rw [HSU.out, List.take_of_length_le (Nat.le_refl _)], by rw [show (((k + 1 : Nat)) : Int) = (k : Int) + 1 by omega]; exact hB3, HNX.out, hM3⟩
          case measure => simp [intOf]; omega
    · obtain rfl : k = Ls.length := by omega
      have HBW := Lib.hid (hM.toBelow hz0)
      clear hM
      by_cases hgt : (Ls.length : Int) < after
      · have e1 : covB since Ls.length after = false := by simp [covB]; omega
        have hcv := rc_covers col 1 wr b L R since Ls.length hB after
        rw [e1] at hcv
        have HCV := Lib.hid hcv; clear hcv e1
        go_wp2_with (go_at_call 34; refine HCV.out.mono ?_; rintro e w' ⟨rfl, rfl⟩)
        go_ret
        exact ⟨rfl, HBW.out⟩
      · by_cases hc : since ≤ after
        · have e1 : covB since Ls.length after = true := by simp [covB]; omega
          have hcv := rc_covers col 1 wr b L R since Ls.length hB after
          rw [e1] at hcv
          have hfi := rc_first col 1 wr b L R since Ls.length hB key after
          have hfd := hI.find hc key
          obtain ⟨hp1, hp2⟩ := fstV_pos (E := evN Ls Ls.length) (fun m hm => (evN_mem hm).1) key after
          rw [show fstV L key after = fstV (evN Ls Ls.length) key after by unfold fstV; rw [hfd], show fstB L key after = fstB (evN Ls Ls.length) key after by unfold fstB; rw [hfd], hp1] at hfi
          generalize fstV (evN Ls Ls.length) key after = W at *
          have HCV := Lib.hid hcv; have HFI := Lib.hid hfi
          clear hcv e1 hfi hp1 hfd hI hB hlen
          by_cases hW : 0 < W
          · have e2 : decide (0 < W) = true := by simp [hW]
            rw [e2] at HFI
            clear e2
            go_wp2_with (first | (go_at_call 34; refine HCV.out.mono ?_; rintro e w' ⟨rfl, rfl⟩) | (go_at_call 36; refine HFI.out.mono ?_; rintro e w' ⟨rfl, hb9⟩))
            go_ret
            exact ⟨rfl, below_call HBW.out hb9⟩
          · obtain rfl : W = 0 := by omega
            have e2 : decide ((0 : Int) < 0) = false := by simp
            rw [e2] at HFI
            clear e2
            go_wp2_with (first | (go_at_call 34; refine HCV.out.mono ?_; rintro e w' ⟨rfl, rfl⟩) | (go_at_call 36; refine HFI.out.mono ?_; rintro e w' ⟨rfl, hb9⟩))
            go_ret
            exact ⟨rfl, below_call HBW.out hb9⟩
        · have e1 : covB since Ls.length after = false := by simp [covB]; omega
          have hcv := rc_covers col 1 wr b L R since Ls.length hB after
          rw [e1] at hcv
          obtain ⟨a, rfl⟩ := Int.eq_ofNat_of_zero_le ha0
          have hlo := hI.lost (a := a) (by omega) (by omega)
          have hRR := hR.out
          have hfw := few_law w wr base _ Ls HS.out HBW.out HL.out HK.out a (by omega)
          have HCV := Lib.hid hcv; have HFW := Lib.hid hfw; have HLO := Lib.hid hlo; have HRR := Lib.hid hRR
          clear hcv e1 hfw hlo hRR hI hB hlen
          go_wp2_with (first | (go_at_call 34; refine HCV.out.mono ?_; rintro e w' ⟨rfl, rfl⟩) | (go_at_call 35; refine HFW.out.mono ?_; rintro e w' ⟨⟨n, rfl, hn⟩, hb9⟩; (have hn9 : most < (n : Int) := by (have h1 := HLO.out; have h2 := HRR.out; omega)); clear hn))
          go_ret
          exact ⟨rfl, below_call HBW.out hb9⟩

end Go.Proofs.Ytgacbfbjikjanaa
