/- Recent: the reference's Note. -/
import Derived.Test.YtgacbfbjikjanaaRec8
import Derived.WalkKit
import Derived.WalkLawsBesides
import Derived.WalkSpells
import Derived.Below
import Derived.Deep.RegionHeld3
import Derived.Deep.QuietTactic
import Derived.BigQuiet
import Derived.Deep.DeepCutAuto
import Derived.Deep.DeepMust
import Derived.KernelRfl
import Derived.Lib.Hide
import Derived.Outline
import Derived.RegionTactic
import Derived.StillTailTactics
namespace Go.Proofs.Ytgacbfbjikjanaa
open Go.RowKit Go.Cl
set_option maxRecDepth 100000
set_option linter.unusedVariables false
set_option linter.unusedSimpArgs false


theorem news2 {w : World} {x : Nat} {u v : Value} {t : TypeId} {fr : Nat × Nat} (hx : hp w x = some (.cells #[u, v] t fr)) : ∀ j y, [u, v][j]? = some y → w.cell? ((⟨x, 0, none⟩ : Addr).add j) = some y := by
  intro j y hj
  rw [Addr.add_lit, hp_cell hx]
  simpa using hj
def RfInv (col : Nat → Nat) (i : Nat) (w : World) (b : Nat) (st : List Mk × Int) (R : Nat) (N : Int) (keys : List ByteArray) (t : Value) (wr : World) : Prop :=
  ∃ k : Nat, t = .int .i64 k ∧ k ≤ keys.length ∧ Ref (paint col w i) i wr b (notM R st N (keys.take k)).1 R (notM R st N (keys.take k)).2 N ∧ Ch col i w wr
/-- One round. -/
def RfStep (col : Nat → Nat) (i : Nat) (w : World) (b : Nat) (L : List Mk) (R : Nat) (since N : Int) (K : ByteArray) (w' : World) : Prop :=
  Ref (paint col w i) i w' b (putM R (L, since) (N, K)).1 R (putM R (L, since) (N, K)).2 N ∧ Ch col i w w'
set_option maxHeartbeats 4000000 in
theorem rf_note_ok (col : Nat → Nat) (i : Nat) (w : World) (b : Nat) (L0 : List Mk) (R : Nat) (since0 last : Int) (N : Int) (v0 : Value) (keys : List ByteArray) (h : Ref col i w b L0 R since0 last) (hk : KeysAt col i w v0 keys)
    (h1 : last < N) (h2 : N ≤ 1099511627776) :
    Calls Try.prog 42 #[.pointer (some ⟨b, 0, none⟩), .int .i64 N, v0] w fun e w' => e = .returned (.bool true) ∧ Ref (paint col w i) i w' b (notM R (L0, since0) N keys).1 R (notM R (L0, since0) N keys).2 N ∧ Ch col i w w' := by
  obtain ⟨i0, hi, hz0, hz1, hz2⟩ := info_parts Try.info82
  obtain ⟨p0, c0, rfl, hcm, hkc, hkeys⟩ := hk
  unfold maxLen at hcm
  obtain ⟨⟨v, hb, hr⟩, hlen, hcap⟩ := h
  have hvb := hr.ne hb.hp (by decide)
  have hcb : paint col w i b = i := paint_of hb.col
  have cb := hp_cell hb.hp; have fb := hp_free hb.hp
  have hst : ∀ W, W = w.setCell ⟨b, 3, none⟩ (.int .i64 N) → Ref (paint col w i) i W b L0 R since0 N ∧ Ch col i w W := fun W hW => by
    rw [hW]
    exact ⟨⟨⟨v, ⟨hp_set hb.hp _, hcb⟩, (hr.set hvb _).recol (fun g hg => paint_of (hr.col g hg))⟩, hlen, hcap⟩, Ch.refl.setCell hcb _⟩
  have HST := Lib.hid hst; clear hst
  clear hb hr hvb
  go_enter Try.func42, Try.ntmps42
  go_wp2
  refine Ph.at_world ?_; intro W hW
  obtain ⟨hR0, hC0⟩ := HST.out W hW
  clear hW HST cb fb hlen
  go_loopw [7] (fun t wr => RfInv col i w b (L0, since0) R N keys t wr) (fun t _ => keys.length + 1 - (intOf t).toNat)
  case atStart => exact ⟨0, rfl, Nat.zero_le _, by simpa [notM] using hR0, hC0⟩
  case round =>
    clear hR0 hC0
    obtain ⟨k, rfl, hk, hR, hC⟩ := hrel
    by_cases hlt : k < keys.length
    · obtain ⟨g, o, rfl, hu, hg⟩ := hkeys k hlt
      have cu := Ch.cell hC hu hg
      have hs := Lib.hid (notM_succ R (L0, since0) N keys k hlt)
      have hk0 : (0 : Int) ≤ (k : Int) := by omega
      clear hu hg
      generalize keys[k] = K at *
      generalize notM R (L0, since0) N (keys.take k) = st at hR hs
      obtain ⟨L, since⟩ := st
      simp only at hR
      obtain ⟨⟨vv, hb, hr⟩, hlen, hcap'⟩ := hR
      obtain ⟨p, c, rfl⟩ := hr.form
      have hbw := hb.hp
      have hvb := hr.ne hbw (by decide)
      have hLl : L.length ≤ 1024 := by omega
      have e1 : (L ++ [(N, K)]).flatMap encM = L.flatMap encM ++ encM (N, K) := by rw [List.flatMap_append]; simp
      have E1 := Lib.hid e1; clear e1
      go_wp2
      refine Ph.wp_region_gr 11 12 [true] (by kernel_rfl) (by kernel_rfl) (fun _ d _ _ _ h => by cases d <;> exact h) ?_
      simp only [List.take_succ_cons, List.take_zero, List.drop_succ_cons, List.drop_zero]
      repeat ((first | (apply Ph.wpG_op rfl; (focus (intro w1 hS0; have cb1 := hp_cell (hp_below hS0 hbw); have cu1 := cell_below hS0 cu; go_simp; first | exact rfl | exact ⟨rfl, Below.refl _ _⟩))) | (apply Ph.wpG_late; (focus (intro w1; go_simp; exact rfl)))); simp only [List.tail_cons, List.tail_nil, Act.put, List.setIfInBounds_toArray, List.set_cons_zero, List.set_cons_succ])
      refine Ph.wpG_nil ?_
      apply Ph.wpAl_op (fun g => .slice (some ⟨g, 0, none⟩) 1 1) rfl; (focus (intro w1; go_simp; exact rfl))
      intro x; simp only [List.tail_cons, List.tail_nil, Act.put, List.setIfInBounds_toArray, List.set_cons_zero, List.set_cons_succ]
      refine Ph.wpAl_nil ?_; intro w2 hS hgs hne
      simp only [List.nil_append, List.cons_append, List.forall_mem_cons, List.pairwise_cons, Prod.mk.injEq] at hgs hne
      obtain ⟨⟨bx, kx⟩, _⟩ := hgs

      have hr2 := hr.below' hS
      have hb2 := hp_below hS hbw
      have HC2 := hC.below hS
      have hx2 : hp w2 x = some (.cells #[.int .i64 N, .string K] 82 (0, 0)) := kx
      clear kx hr hbw hb cu hC
      refine wpList_append_col rfl (.tmp 32) (.tmp 39) 62 rfl 82 i0 (.agg #[.int .i64 0, .string ⟨#[]⟩]) 2 24 Try.underlying62 hi hz0 hz1 hz2 rfl (by decide) _ L.length (L.flatMap encM) rfl hr2 ⟨x, 0, none⟩ 1 1 (encM (N, K)) rfl rfl (news2 hx2) (encM_ok.one _) ?c3 ?c4 ?k
      case c3 => unfold maxLen; omega
      case c4 => omega
      case k =>
        intro p' c' w3 hr3 hC3 hg3
        rw [paint_paint HC2.size, ← E1.out] at hr3
        have hb3 := hp_grown hb2 hg3 (fun e => hvb e.symm)
        have HC3 := HC2.trans hC3
        have hvb3 := hr3.ne hb3 (by decide)
        have cb := hp_cell hb3; have fb := hp_free hb3
        go_wp2
        refine Ph.at_world ?_; intro Z hW
        have hbZ : hp Z b = some (.cells #[.slice p' (L.length + 1) c', .int .i64 R, .int .i64 since, .int .i64 N] 65 (0, 0)) := by rw [hW]; exact hp_set hb3 _
        have hrZ : Row (paint col w i) i Z 82 2 (.slice p' (L.length + 1) c') (L.length + 1) ((L ++ [(N, K)]).flatMap encM) := by rw [hW]; exact hr3.set hvb3 _
        have HCZ : Ch col i w Z := by rw [hW]; exact HC3.setCell hcb _
        clear hW cb fb hr3 hb3 hC3 hg3 HC3 hr2 hb2 HC2 hx2
        go_wp2
        refine Ph.region_at (by kernel_rfl) ?_
        refine Ph.at_quiet 10 (by kernel_rfl) ?_
        simp only [List.take_succ_cons, List.take_zero, List.drop_succ_cons, List.drop_zero]
        repeat ((first | (apply Ph.wpPh_g; (focus (intro w1 hS0; have cb1 := hp_cell (hp_below hS0 (hp_below (below_drew (Below.refl _ _)) hbZ)); go_simp; first | exact rfl | exact ⟨rfl, Below.refl _ _⟩)))); simp only [Act.put, List.setIfInBounds_toArray, List.set_cons_zero, List.set_cons_succ])
        refine Ph.wpPh_nil ?_; intro U hU
        refine Ph.at_end (by simp) ?_

        replace hU := below_call (below_drew (Below.refl _ _)) hU
        have hbU := hp_below hU hbZ
        have hrU := hrZ.below' hU
        have HCU := HCZ.below hU
        clear hbZ hrZ HCZ
        have hl1 : (L ++ [(N, K)]).length = L.length + 1 := by simp
        by_cases hgt : (R : Int) < (L.length : Int) + 1
        · have hput : putM R (L, since) (N, K) = ((L ++ [(N, K)]).tail, ((L ++ [(N, K)]).headD (0, ⟨#[]⟩)).1) := by
            unfold putM; rw [if_pos (by rw [hl1]; omega)]
          have HP := Lib.hid hput; clear hput
          obtain ⟨g4, c4, cur, hv4, hg4, hnc4, hcm4, hcs4, htk4, hgc4⟩ := hrU.pos (by omega)
          simp only [Value.slice.injEq] at hv4
          obtain ⟨rfl, _, rfl⟩ := hv4
          unfold maxLen at hcm4
          have hh : ∃ m0 L1, L ++ [(N, K)] = m0 :: L1 ∧ L1.length = L.length := by
            cases L with
            | nil => exact ⟨_, _, rfl, rfl⟩
            | cons a L => exact ⟨a, L ++ [(N, K)], rfl, by simp⟩
          obtain ⟨m0, L1, hLL, hl2⟩ := hh
          rw [hLL] at hrU HP htk4
          have c0 : U.cell? ⟨g4, 0, none⟩ = some (.int .i64 m0.1) := hrU.cell (g := g4) rfl (by simp [encM])
          have hsrc := encM_ok.src (m0 :: L1) 1 hg4 (by rw [show (m0 :: L1).length = L.length + 1 by simp [hl2]]; exact htk4)
          simp only [List.drop_succ_cons, List.drop_zero, Nat.one_mul] at hsrc
          have cb := hp_cell hbU; have fb := hp_free hbU
          have hbl := hp_lt hbU
          have h1c : 1 ≤ c' := by omega
          have h1l : 1 ≤ L.length + 1 := by omega
          have hlL : L1.length = L.length + 1 - 1 := by omega
          have HL2 := Lib.hid hl2; clear hl2 hl1 hLL
          go_upto_region 10 with fail
          refine Ph.at_world ?_; intro Y hW
          have hbY : hp Y b = some (.cells #[.slice (some ⟨g4, 0, none⟩) (L.length + 1) c', .int .i64 R, .int .i64 m0.1, .int .i64 N] 65 (0, 0)) := by rw [hW]; exact hp_set hbU _
          have hvbU := hrU.ne hbU (by decide)
          have hgY : hp Y g4 = some (.cells cur 82 (0, 0)) := by rw [hW]; exact hp_set_ne hg4 (fun e => hvbU (by simp [Value.ownBlock, e])) _
          have HCY : Ch col i w Y := by rw [hW]; exact HCU.setCell hcb _
          have hsrcY : ∀ k v, (L1.flatMap encM)[k]? = some v → Y.cell? ((⟨g4, 2, none⟩ : Addr).add k) = some v := fun k v hv => by
            have := hsrc k v hv
            rw [Addr.add_lit, hp_cell hg4] at this
            rw [Addr.add_lit, hp_cell hgY]; exact this
          clear hW cb fb c0 hsrc hbU hrU HCU hg4
          have hnew : Row (paint col w i) i (Y.alloc (.cells #[] 82)) 82 2 (.slice (some ⟨Y.heap.size, 0, none⟩) 0 0) 0 [] := ⟨World.ownsRow_made Y #[] 0 (Nat.zero_le _) (by unfold maxLen; omega) (by simp), fun g hg => by simp [Value.ownBlock] at hg; subst hg; exact paint_new HCY.size⟩
          have HBY := below_alloc (Below.refl Y.heap.size Y) (.cells #[] 82)
          have hbY2 := hp_below HBY hbY
          have hblY := hp_lt hbY
          have cb := hp_cell hbY; have fb := hp_free hbY
          clear hlL
          have HSY := Lib.hid hsrcY; clear hsrcY
          by_cases hc1 : c' = 1
          · have hL1 : L1 = [] := List.eq_nil_of_length_eq_zero (by have := HL2.out; omega)
            subst hL1 hc1
            clear h1c h1l
            obtain rfl : L = [] := List.eq_nil_of_length_eq_zero (by have := HL2.out; simpa using this.symm)
            go_wp2_with (at_builtin; refine wpList_append_col rfl (.tmp 64) (.tmp 69) 62 rfl 82 i0 (.agg #[.int .i64 0, .string ⟨#[]⟩]) 2 24 Try.underlying62 hi hz0 hz1 hz2 rfl (by decide) _ 0 [] rfl hnew ⟨g4, 0, none⟩ 0 0 [] rfl rfl (by simp) (by simp) ?c3 ?c4 ?k)
            try (case c3 => unfold maxLen; omega)
            try (case c4 => omega)
            case k =>
              intro p5 c5 w5 hr5 hC5 hg5
              rw [paint_paint (Nat.le_trans HCY.size HBY.size)] at hr5
              try simp only [Nat.zero_add, List.nil_append] at hr5
              have hb5 := hp_grown hbY2 hg5 (by simp [Value.ownBlock]; omega)
              have HC5 := (HCY.below HBY).trans hC5
              have hvb5 := hr5.ne hb5 (by decide)
              clear cb fb
              have cb := hp_cell hb5; have fb := hp_free hb5
              try simp only [Nat.zero_add]
              go_wp2
              go_roundw
              case rel =>
                refine ⟨k + 1, by go_num, by omega, ?_, HC5.setCell hcb _⟩
                rw [hs.out, HP.out]
                exact ⟨⟨_, ⟨hp_set hb5 _, hcb⟩, hr5.set hvb5 _⟩, Nat.zero_le _, hcap'⟩
              case measure => simp [intOf]; omega
          · have hc2 : ¬ (c' = 1) := hc1
            clear hc1
            have hl3 : (L1.flatMap encM).length = L.length * 2 := by rw [encM_ok.length, HL2.out]
            have HL3 := Lib.hid hl3; clear hl3
            go_wp2_with (at_builtin; refine wpList_append_col rfl (.tmp 64) (.tmp 69) 62 rfl 82 i0 (.agg #[.int .i64 0, .string ⟨#[]⟩]) 2 24 Try.underlying62 hi hz0 hz1 hz2 rfl (by decide) _ 0 [] rfl hnew ⟨g4, 2, none⟩ L.length (c' - 1) (L1.flatMap encM) rfl HL3.out (fun k v hv => by rw [Addr.add_lit]; exact cell_below HBY (by have := HSY.out k v hv; rwa [Addr.add_lit] at this)) (encM_ok.ones _) ?c3b ?c4b ?kb)
            case c3b => unfold maxLen; omega
            case c4b => omega
            case kb =>
              intro p5 c5 w5 hr5 hC5 hg5
              rw [paint_paint (Nat.le_trans HCY.size HBY.size)] at hr5
              try simp only [Nat.zero_add, List.nil_append] at hr5
              have hb5 := hp_grown hbY2 hg5 (by simp [Value.ownBlock]; omega)
              have HC5 := (HCY.below HBY).trans hC5
              have hvb5 := hr5.ne hb5 (by decide)
              clear cb fb
              have cb := hp_cell hb5; have fb := hp_free hb5
              try simp only [Nat.zero_add]
              go_wp2
              go_roundw
              case rel =>
                refine ⟨k + 1, by go_num, by omega, ?_, HC5.setCell hcb _⟩
                rw [hs.out, HP.out]
                exact ⟨⟨_, ⟨hp_set hb5 _, hcb⟩, by rw [show (m0 :: L1).tail.length = L.length from HL2.out]; exact hr5.set hvb5 _⟩, by simp only [List.tail_cons]; rw [HL2.out]; exact hlen, hcap'⟩
              case measure => simp [intOf]; omega
        · have hput : putM R (L, since) (N, K) = (L ++ [(N, K)], since) := by
            unfold putM; rw [if_neg (by rw [hl1]; omega)]
          have HP := Lib.hid hput; clear hput
          have HL1 := Lib.hid hl1; clear hl1
          go_wp2
          go_roundw
          case rel =>
            refine ⟨k + 1, by go_num, by omega, ?_, HCU⟩
            rw [hs.out, HP.out]
            exact ⟨⟨_, ⟨hbU, hcb⟩, by rw [HL1.out]; exact hrU⟩, by simp only; rw [HL1.out]; omega, hcap'⟩
          case measure => simp [intOf]; omega
    · have hka : keys.take k = keys := List.take_of_length_le (by omega)
      rw [hka] at hR
      clear hka
      go_wp2
      go_ret
      exact ⟨rfl, hR, hC⟩
theorem rf_note_no (col : Nat → Nat) (i : Nat) (w : World) (b : Nat) (L : List Mk) (R : Nat) (since last : Int) (N : Int) (v : Value) (h : Ref col i w b L R since last) (h1 : N ≤ last ∨ 1099511627776 < N) :
    Calls Try.prog 42 #[.pointer (some ⟨b, 0, none⟩), .int .i64 N, v] w fun e w' => e = .returned (.bool false) ∧ w = w' := by
  obtain ⟨⟨v, hb, hr⟩, hlen, hcap⟩ := h
  have cb := hp_cell hb.hp
  by_cases h2 : N ≤ last
  · clear h1
    go_enter Try.func42, Try.ntmps42
    go_wp2
    go_ret
    exact ⟨rfl, rfl⟩
  · have h3 : 1099511627776 < N := by omega
    have h4 : last < N := by omega
    clear h1 h2
    go_enter Try.func42, Try.ntmps42
    go_wp2
    go_ret
    exact ⟨rfl, rfl⟩

end Go.Proofs.Ytgacbfbjikjanaa
