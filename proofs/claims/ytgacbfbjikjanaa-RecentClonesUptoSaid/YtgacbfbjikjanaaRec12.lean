/- Recent: RecentPlays. -/
import Derived.Test.YtgacbfbjikjanaaRec11
import Derived.Test.YtgacbfbjikjanaaRdr
import Derived.WalkKit
import Derived.WalkLawsBesides
import Derived.WalkSpells
import Derived.Below
import Derived.Deep.RegionHeld3
import Derived.Deep.QuietTactic
import Derived.BigQuiet
import Derived.Deep.DeepCutAuto
import Derived.Deep.DeepMust
import Derived.KernelRfl
import Derived.Lib.Hide
import Derived.Outline
import Derived.RegionTactic
import Derived.StillTailTactics
namespace Go.Proofs.Ytgacbfbjikjanaa
open Go.RowKit Go.Cl Go.Rdr
set_option maxRecDepth 100000
set_option linter.unusedVariables false
set_option linter.unusedSimpArgs false


abbrev Op8 := Int × List ByteArray × ByteArray × Int
def StrR (s : ByteArray) (cs : List Value) : Prop := cs = [.string s] ∧ s.size ≤ maxLen
def Op8R (w : World) (base : Nat) (x : Op8) (cs : List Value) : Prop := ∃ v, cs = [.int .i64 x.1, v, .string x.2.2.1, .int .i64 x.2.2.2] ∧ SlIs w base 1 StrR v x.2.1
theorem keys_of {w : World} {base : Nat} {v : Value} {keys : List ByteArray} (h : SlIs w base 1 StrR v keys) (S : List Nat) (hS : 0 ∉ S) : KeysIn zc S w v keys := by
  obtain ⟨p, c, rfl, hc, hm, hx⟩ := h
  refine ⟨p, c, rfl, hm, hc, fun k hk => ?_⟩
  obtain ⟨b, o, cs, hp, _, _, hcl, ⟨hR, _⟩, hat⟩ := hx k hk
  have := hat 0 (by omega)
  rw [hR] at this
  exact ⟨b, o, hp, by simpa using this, hS⟩
theorem op8_at {w wr : World} {base c : Nat} {p : Option Addr} {script : List Op8} (hs : SlIs w base 4 (Op8R w base) (.slice p script.length c) script) (hb : Below w.heap.size w wr) (k : Nat) (hlt : k < script.length) :
    ∃ bs os v, p = some ⟨bs, os, none⟩ ∧ wr.cell? ⟨bs, os + k * 4, none⟩ = some (.int .i64 script[k].1) ∧ wr.cell? ⟨bs, os + k * 4 + 1, none⟩ = some v ∧ wr.cell? ⟨bs, os + k * 4 + 2, none⟩ = some (.string script[k].2.2.1) ∧
      wr.cell? ⟨bs, os + k * 4 + 3, none⟩ = some (.int .i64 script[k].2.2.2) ∧ SlIs w base 1 StrR v script[k].2.1 := by
  obtain ⟨bs, os, c', cs, hv, _, _, hcl, ⟨v, hcs, hk⟩, hbs, hat⟩ := hs.at hb k hlt
  simp only [Value.slice.injEq] at hv
  obtain ⟨rfl, _, rfl⟩ := hv
  subst hcs
  exact ⟨bs, os, v, rfl, hat 0 (by omega), hat 1 (by omega), hat 2 (by omega), hat 3 (by omega), hk⟩
theorem Ref.open {col : Nat → Nat} {i : Nat} {w : World} {b : Nat} {L : List Mk} {R : Nat} {since last : Int} (h : Ref col i w b L R since last) :
    ∃ p c, hp w b = some (.cells #[.slice p L.length c, .int .i64 (R : Nat), .int .i64 since, .int .i64 last] 65 (0, 0)) ∧ Row col i w 82 2 (.slice p L.length c) L.length (L.flatMap encM) := by
  obtain ⟨⟨v, hb, hr⟩, _, _⟩ := h
  obtain ⟨p, c, rfl⟩ := hr.form
  exact ⟨p, c, hb.hp, hr⟩
def PlInv (w : World) (b r R n : Nat) (t : Value) (wr : World) : Prop :=
  ∃ (k : Nat) (col : Nat → Nat) (L : List Mk) (since last : Int), t = .int .i64 k ∧ k ≤ n ∧ Rec col 1 wr b L R since last ∧ Ref col 2 wr r L R since last ∧ Mv [1, 2] zc w col wr
set_option maxHeartbeats 2000000 in
theorem recentPlays (w : World) (base : Nat) (most since0 : Int) (v : Value) (script : List Op8) (hs : SlIs w base 4 (Op8R w base) v script) :
    Calls Try.prog 6 #[.int .i64 most, .int .i64 since0, v] w fun e w' => e = .returned (.bool true) ∧ Below w.heap.size w w' := by
  obtain ⟨p, c, rfl, hlc, hcm⟩ := hs.form
  unfold maxLen at hcm
  have hz0 : ∀ k, k < w.heap.size → zc k ∉ [1, 2] := fun k _ => by simp [zc]
  go_enter Try.func6, Try.ntmps6
  go_wp2_with fail
  refine (fixed27 w).mono ?_; rintro e w0 ⟨rfl, hb0⟩
  go_wp2_with fail
  refine (rc_new zc 1 w0 most since0).mono ?_; rintro e w1 ⟨b, rfl, hB, HC1⟩
  go_wp2_with fail
  refine (rf_new (paint zc w0 1) 2 w1 most since0).mono ?_; rintro e w2 ⟨r, rfl, hR, HC2⟩
  have hB1 := hB.kept HC2.mv (by simp)
  have hM := ((Mv.of_below (S := [1, 2]) (col := zc) hb0).trans (HC1.mv' (by simp))).trans (HC2.mv' (by simp))
  clear hB HC1 HC2 hb0
  go_wp2
  go_loopw [9] (fun t wr => PlInv w b r (capR most) script.length t wr) (fun t _ => script.length + 1 - (intOf t).toNat)
  case atStart => exact ⟨0, _, [], _, _, rfl, Nat.zero_le _, hB1, hR, hM⟩
  case round =>
    clear hB1 hR hM
    obtain ⟨k, col, L, since, last, rfl, hk, hB2, hR2, hM2⟩ := hrel
    by_cases hlt : k < script.length
    · obtain ⟨bs, os, kv, rfl, q0, q1, q2, q3, hkeys⟩ := op8_at hs (hM2.toBelow hz0) k hlt
      have hK := (keys_of hkeys [1, 2] (by simp)).mv hM2 (by simp)
      have hk0 : (0 : Int) ≤ (k : Int) := by omega
      clear hkeys
      generalize script[k] = X at *
      obtain ⟨kp, kc, rfl⟩ : ∃ p c, kv = .slice p X.2.1.length c := by obtain ⟨p, q, hv, _⟩ := hK; exact ⟨p, q, hv⟩
      go_wp2
      refine Ph.region_at (by kernel_rfl) ?_
      refine Ph.at_quiet 6 (by kernel_rfl) ?_
      simp only [List.take_succ_cons, List.take_zero, List.drop_succ_cons, List.drop_zero]
      repeat ((first | (apply Ph.wpPh_g; (focus (intro w1 hS0; have hb0 := below_call (below_drew (Below.refl wr.heap.size wr)) hS0; have d0 := cell_below hb0 q0; have d1 := cell_below hb0 q1; have d2 := cell_below hb0 q2; have d3 := cell_below hb0 q3; go_simp; first | exact rfl | exact ⟨rfl, Below.refl _ _⟩)))); simp only [Act.put, List.setIfInBounds_toArray, List.set_cons_zero, List.set_cons_succ])
      refine Ph.wpPh_nil ?_; intro w3 hS3
      refine Ph.at_op rfl (by kernel_rfl) ?_
      have hb3 := below_call (below_drew (Below.refl wr.heap.size wr)) hS3
      go_wp2_with (go_at_call 30; refine (step30 1 2 b r [1, 2] (by simp) (by simp) (by decide) (by decide) (by decide) col w3 L (capR most) since last X.1 X.2.2.2 X.2.2.1 _ X.2.1 (hB2.below hb3) (hR2.below hb3) (hK.below hb3)).mono ?_; rintro e w5 ⟨c4, rfl, hB5, hR5, hM5'⟩)
      have hM5 := (hM2.after_below hb3).trans hM5'
      obtain ⟨pr, cr, hr5, hrow5⟩ := hR5.open
      have hlen5 := hB5.len; have hcap5 := hB5.cap
      generalize nL (capR most) L since last X.1 X.2.1 = L5 at *
      refine Ph.at_ghost 15 10 36 (fun g : Option Addr × Nat => Value.slice g.1 L5.length g.2) (fun g w1 => Row zc 0 w1 82 2 (.slice g.1 L5.length g.2) L5.length (L5.flatMap encM)) (fun g a b h hb => h.below' hb) (by kernel_rfl) (by kernel_rfl) (by decide) (by decide) rfl ?_
      simp only [List.take_succ_cons, List.take_zero, List.drop_succ_cons, List.drop_zero]
      (first | (apply Ph.wpGh_g (by decide); (focus (intro w1 hS0; have cr1 := hp_cell (hp_below hS0 hr5); go_simp; first | exact rfl | exact ⟨rfl, Below.refl _ _⟩)))); simp only [Act.put, List.setIfInBounds_toArray, List.set_cons_zero, List.set_cons_succ]
      (first | (apply Ph.wpGh_g (by decide); (focus (intro w1 hS0; have cr1 := hp_cell (hp_below hS0 hr5); go_simp; first | exact rfl | exact ⟨rfl, Below.refl _ _⟩)))); simp only [Act.put, List.setIfInBounds_toArray, List.set_cons_zero, List.set_cons_succ]
      (first | (apply Ph.wpGh_g (by decide); (focus (intro w1 hS0; have cr1 := hp_cell (hp_below hS0 hr5); go_simp; first | exact rfl | exact ⟨rfl, Below.refl _ _⟩)))); simp only [Act.put, List.setIfInBounds_toArray, List.set_cons_zero, List.set_cons_succ]
      refine Ph.wpGh_e rfl ?_ ?_
      · intro w1 hS0; have cr1 := hp_cell (hp_below hS0 hr5); go_simp; refine (rc_list _ 1 w1 b _ _ _ _ (hB5.below hS0)).mono ?_; rintro e w2 ⟨p', c', rfl, hr', hb'⟩; exact ⟨_, rfl, p', c', rfl, hb', hr'.recol (fun _ _ => rfl)⟩
      (first | (apply Ph.wpGh_g (by decide); (focus (intro w1 hS0; have cr1 := hp_cell (hp_below hS0 hr5); go_simp; first | exact rfl | exact ⟨rfl, Below.refl _ _⟩)))); simp only [Act.put, List.setIfInBounds_toArray, List.set_cons_zero, List.set_cons_succ]
      (first | (apply Ph.wpGh_g (by decide); (focus (intro w1 hS0; have cr1 := hp_cell (hp_below hS0 hr5); go_simp; first | exact rfl | exact ⟨rfl, Below.refl _ _⟩)))); simp only [Act.put, List.setIfInBounds_toArray, List.set_cons_zero, List.set_cons_succ]
      (first | (apply Ph.wpGh_g (by decide); (focus (intro w1 hS0; have cr1 := hp_cell (hp_below hS0 hr5); go_simp; first | exact rfl | exact ⟨rfl, Below.refl _ _⟩)))); simp only [Act.put, List.setIfInBounds_toArray, List.set_cons_zero, List.set_cons_succ]
      (first | (apply Ph.wpGh_g (by decide); (focus (intro w1 hS0; have cr1 := hp_cell (hp_below hS0 hr5); go_simp; first | exact rfl | exact ⟨rfl, Below.refl _ _⟩)))); simp only [Act.put, List.setIfInBounds_toArray, List.set_cons_zero, List.set_cons_succ]
      refine Ph.wpGh_nil ?_; intro g w6 hS6 hG; simp only [Act.put, List.setIfInBounds_toArray, List.set_cons_zero, List.set_cons_succ]
      refine Ph.at_op rfl (by kernel_rfl) ?_
      go_wp2_with (go_at_call 31; refine (same31_true _ _ _ _ _ _ _ L5 L5.length rfl (by omega) hG (hrow5.below' hS6)).mono ?_; rintro e w7 ⟨rfl, hb7'⟩)
      have hb7q := below_call hS6 hb7'
      refine Ph.at_quiet 18 (by kernel_rfl) ?_
      simp only [List.take_succ_cons, List.take_zero, List.drop_succ_cons, List.drop_zero]
      repeat ((first | (apply Ph.wpPh_g; (focus (intro w1 hS0; go_simp; first | exact rfl | exact ⟨rfl, Below.refl _ _⟩)))); simp only [Act.put, List.setIfInBounds_toArray, List.set_cons_zero, List.set_cons_succ])
      refine Ph.wpPh_nil ?_; intro w8 hS8
      refine Ph.at_end (by simp) ?_
      have hb7 := below_call hb7q hS8
      go_wp2
      go_roundw
      case rel => exact ⟨k + 1, c4, _, _, _, by go_num, by omega, hB5.below hb7, hR5.below hb7, hM5.after_below hb7⟩
      case measure => simp [intOf]; omega
    · go_wp2
      go_ret
      exact ⟨rfl, hM2.toBelow hz0⟩

end Go.Proofs.Ytgacbfbjikjanaa
