/- Recent: RecentClones. -/
import Derived.Test.YtgacbfbjikjanaaRec16
import Derived.Test.YtgacbfbjikjanaaRec16b
import Derived.Test.YtgacbfbjikjanaaGh
import Derived.WalkKit
import Derived.WalkLawsBesides
import Derived.WalkSpells
import Derived.Below
import Derived.Deep.RegionHeld3
import Derived.Deep.QuietTactic
import Derived.BigQuiet
import Derived.Deep.DeepCutAuto
import Derived.Deep.DeepMust
import Derived.KernelRfl
import Derived.Lib.Hide
import Derived.Outline
import Derived.RegionTactic
import Derived.StillTailTactics
namespace Go.Proofs.Ytgacbfbjikjanaa
open Go.RowKit Go.Cl Go.Rdr
set_option maxRecDepth 100000
set_option linter.unusedVariables false
set_option linter.unusedSimpArgs false


def encK (x : ByteArray) : List Value := [.string x]
theorem encK_ok : Enc ByteArray encK 1 := ⟨fun _ => rfl, fun _ u hu => by simp [encK] at hu; subst hu; rfl⟩
theorem encK_map (X : List ByteArray) : X.flatMap encK = X.map Value.string := by induction X with | nil => rfl | cons y Y ih => simp [encK, ih]
theorem Try.info9 : (Try.prog.info? 9).map (fun i => (i.zero, i.size, i.bytes)) = some (some (.string ⟨#[]⟩), 1, 16) := by kernel_rfl
theorem one_str (w : World) (u : Value) (t : TypeId) : ∀ j x, [u][j]? = some x → (w.alloc (.cells #[u] t)).cell? ((⟨w.heap.size, 0, none⟩ : Addr).add j) = some x := by
  intro j x hj
  match j, hj with
  | 0, hj => simp at hj; subst hj; simp [Addr.add]
theorem row_store {col : Nat → Nat} {i : Nat} {w : World} {n g c : Nat} {X : List ByteArray} (h : Row col i w 9 1 (.slice (some ⟨g, 0, none⟩) n c) n (X.flatMap encK)) (hX : X.length = n) (k : Nat) (hk : k < n) (u : ByteArray) :
    Row col i (w.setCell ⟨g, k, none⟩ (.string u)) 9 1 (.slice (some ⟨g, 0, none⟩) n c) n ((X.set k u).flatMap encK) := by
  obtain ⟨g', c', cur, hv, hg, hnc, hcm, hcs, htk, hgc⟩ := h.pos (by omega)
  simp only [Value.slice.injEq, Option.some.injEq, Addr.mk.injEq] at hv
  obtain ⟨⟨rfl, _, _⟩, _, rfl⟩ := hv
  refine Row.mk' (hp_set hg _) hnc hcm (by simpa using hcs) ?_ (by rw [encK_ok.length, List.length_set, hX]) hgc
  rw [encK_map] at htk ⊢
  rw [Array.toList_setIfInBounds, List.map_set, ← htk, List.take_set]
def ALLR : List Nat := [1, 2, 3, 4, 6]
theorem zc_r (w : World) : ∀ k, k < w.heap.size → zc k ∉ ALLR := fun k _ => by simp [zc, ALLR]
/-- The ring and its reference. -/
structure Duo (w : World) (b r : Nat) (L : List Mk) (R : Nat) (since last : Int) (col : Nat → Nat) (wr : World) : Prop where
  c : Rec col 1 wr b L R since last
  r : Ref col 2 wr r L R since last
  mv : Mv ALLR zc w col wr
theorem Duo.beside {w : World} {b r : Nat} {L : List Mk} {R : Nat} {since last : Int} {col col' : Nat → Nat} {wr w' : World} {S : List Nat} (h : Duo w b r L R since last col wr) (hm : Mv S col wr col' w') (h1 : 1 ∉ S) (h2 : 2 ∉ S) (hS : ∀ x, x ∈ S → x ∈ ALLR) : Duo w b r L R since last col' w' :=
  ⟨h.c.kept hm h1, h.r.kept hm h2, h.mv.trans (hm.sub hS)⟩
/-- What is known while a commit is noted on both. -/
def Stq (w : World) (b r : Nat) (own : Value) (n : Nat) (full : Value) (ks : List ByteArray) (R : Nat) (Lb : List Mk) (sb lb : Int) (Lr : List Mk) (sr lr : Int) (wr : World) : Prop :=
  ∃ c, Rec c 1 wr b Lb R sb lb ∧ Ref c 2 wr r Lr R sr lr ∧ KeysIn c [1, 2] wr own ks ∧ Row c 6 wr 9 1 full n ((ks ++ [(⟨#[115, 112, 97, 114, 101]⟩ : ByteArray)]).flatMap encK) ∧ Mv ALLR zc w c wr
theorem Stq.mono (w : World) (b r : Nat) (own : Value) (n : Nat) (full : Value) (ks : List ByteArray) (R : Nat) (Lb : List Mk) (sb lb : Int) (Lr : List Mk) (sr lr : Int) : Ph.Mono1 (Stq w b r own n full ks R Lb sb lb Lr sr lr) :=
  fun a a' ⟨c, h1, h2, h3, h4, h5⟩ hb => ⟨c, h1.below hb, h2.below hb, h3.below hb, h4.below' hb, h5.after_below hb⟩
theorem Stq.bel {w : World} {b r : Nat} {own : Value} {n : Nat} {full : Value} {ks : List ByteArray} {R : Nat} {Lb : List Mk} {sb lb : Int} {Lr : List Mk} {sr lr : Int} {Lb2 : List Mk} {sb2 lb2 : Int} {Lr2 : List Mk} {sr2 lr2 : Int} {Lb3 : List Mk} {sb3 lb3 : Int} {Lr3 : List Mk} {sr3 lr3 : Int} {k : Nat} {wr : World}
    (h : Ph.S3 (Stq w b r own n full ks R Lb sb lb Lr sr lr) (Stq w b r own n full ks R Lb2 sb2 lb2 Lr2 sr2 lr2) (Stq w b r own n full ks R Lb3 sb3 lb3 Lr3 sr3 lr3) k wr) : Below w.heap.size w wr := by
  match k, h with
  | 0, ⟨_, _, _, _, _, h⟩ => exact h.toBelow (zc_r w)
  | 1, ⟨_, _, _, _, _, h⟩ => exact h.toBelow (zc_r w)
  | _ + 2, ⟨_, _, _, _, _, h⟩ => exact h.toBelow (zc_r w)
theorem keys_row {col : Nat → Nat} {w : World} {g n c : Nat} {ks : List ByteArray} {x : ByteArray} (h : Row col 6 w 9 1 (.slice (some ⟨g, 0, none⟩) n c) n ((ks ++ [x]).flatMap encK)) (hn : n = ks.length + 1) :
    KeysIn col [1, 2] w (.slice (some ⟨g, 0, none⟩) ks.length c) ks ∧ w.cell? ⟨g, ks.length, none⟩ = some (.string x) ∧ n ≤ c ∧ c ≤ maxLen := by
  obtain ⟨g', c', cur, hv, hg, hnc, hcm, hcs, htk, hgc⟩ := h.pos (by omega)
  simp only [Value.slice.injEq, Option.some.injEq, Addr.mk.injEq] at hv
  obtain ⟨⟨rfl, _, _⟩, _, rfl⟩ := hv
  have hc : ∀ k u, ((ks ++ [x]).map Value.string)[k]? = some u → w.cell? ⟨g, k, none⟩ = some u := fun k u hu => h.cell (g := g) rfl (by rw [encK_map]; exact hu)
  refine ⟨⟨_, _, rfl, hcm, by omega, fun k hk => ⟨g, 0, rfl, ?_, by rw [hgc]; decide⟩⟩, hc _ _ (by simp), hnc, hcm⟩
  rw [Nat.zero_add]
  exact hc k _ (by rw [List.map_append, List.getElem?_append_left (by simpa using hk)]; simp [hk])
def IvA (w : World) (b r R : Nat) (n : Nat) (t : Value) (wr : World) : Prop :=
  ∃ (k : Nat) (col : Nat → Nat) (L : List Mk) (since last : Int), t = .int .i64 k ∧ k ≤ n ∧ Duo w b r L R since last col wr
def IvO (w : World) (b r : Nat) (L : List Mk) (R : Nat) (since last : Int) (g n c : Nat) (t : Value) (wr : World) : Prop :=
  ∃ (k : Nat) (col : Nat → Nat) (X : List ByteArray), t = .int .i64 k ∧ k ≤ n ∧ X.length = n ∧ Row col 6 wr 9 1 (.slice (some ⟨g, 0, none⟩) n c) n (X.flatMap encK) ∧ Duo w b r L R since last col wr
def IvL (w : World) (b r : Nat) (L : List Mk) (R : Nat) (since last : Int) (p : Option Addr) (n c : Nat) (t : Value) (wr : World) : Prop :=
  ∃ (k : Nat) (col : Nat → Nat) (X : List Mk), t = .int .i64 k ∧ k ≤ n ∧ X.length = n ∧ Row col 6 wr 82 2 (.slice p n c) n (X.flatMap encM) ∧ Duo w b r L R since last col wr
/-- The ring, its reference, their clones. -/
structure Quad (w : World) (b r c v : Nat) (L : List Mk) (R : Nat) (since last : Int) (L2 : List Mk) (s2 l2 : Int) (col : Nat → Nat) (wr : World) : Prop where
  d : Duo w b r L R since last col wr
  c : Rec col 3 wr c L2 R s2 l2
  v : Ref col 4 wr v L2 R s2 l2
def IvQ (w : World) (b r c v : Nat) (L : List Mk) (R : Nat) (since last : Int) (n : Nat) (t : Value) (wr : World) : Prop :=
  ∃ (k : Nat) (col : Nat → Nat) (L2 : List Mk) (s2 l2 : Int), t = .int .i64 k ∧ k ≤ n ∧ Quad w b r c v L R since last L2 s2 l2 col wr


set_option maxHeartbeats 8000000 in
theorem recentClones (w : World) (base : Nat) (most : Int) (va vb : Value) (a b : List Op8) (hsa : SlIs w base 4 (Op8R w base) va a) (hsb : SlIs w base 4 (Op8R w base) vb b) (hba : ∀ k (h : k < a.length), (a[k].2.1).length ≤ 1048576) :
    Calls Try.prog 10 #[.int .i64 most, va, vb] w fun e w' => e = .returned (.bool true) ∧ Below w.heap.size w w' := by
  obtain ⟨i0, hi, hz0, hz1, hz2⟩ := info_parts Try.info9
  obtain ⟨i1, hi', hy0, hy1, hy2⟩ := info_parts Try.info82
  obtain ⟨pa, ca, rfl, hla, hma⟩ := hsa.form
  obtain ⟨pb, cb, rfl, hlb, hmb⟩ := hsb.form
  unfold maxLen at hma hmb
  have HBA := Lib.hid hba; clear hba
  go_enter Try.func10, Try.ntmps10
  go_wp2_with fail
  refine (fixed27 w).mono ?_; rintro e w0 ⟨rfl, hb0⟩
  go_wp2_with fail
  refine (rc_new zc 1 w0 most 0).mono ?_; rintro e w1 ⟨c, rfl, hB, HC1⟩
  go_wp2_with fail
  refine (rf_new (paint zc w0 1) 2 w1 most 0).mono ?_; rintro e w2 ⟨r, rfl, hR, HC2⟩
  have hD : Duo w c r [] (capR most) (capS 0) (capS 0) (paint (paint zc w0 1) w1 2) w2 := ⟨hB.kept HC2.mv (by simp), hR, ((Mv.of_below (S := ALLR) (col := zc) hb0).trans (HC1.mv' (by decide))).trans (HC2.mv' (by decide))⟩
  clear hB HC1 HC2 hR hb0
  generalize capR most = R at *
  generalize capS 0 = s0 at *
  go_wp2
  go_loopw [9, 10, 11] (fun t _ _ wr => IvA w c r R a.length t wr) (fun t _ _ _ => a.length + 1 - (intOf t).toNat)
  case atStart => exact ⟨0, _, _, _, _, rfl, Nat.zero_le _, hD⟩
  case round =>
    clear hD
    obtain ⟨k, col, L, since, last, rfl, hk, hD⟩ := hrel
    by_cases hlt : k < a.length
    · have hkl := HBA.out k hlt
      obtain ⟨bs, os, kv, rfl, q0, q1, q2, q3, hkeys⟩ := op8_at hsa (Below.refl _ _) k hlt
      have hKV := Lib.hid (keys_of hkeys ALLR (by decide))
      clear hkeys q2 q3
      generalize a[k] = X at *
      obtain ⟨N, ks, S, J⟩ := X
      simp only at hkl q0 q1 hKV
      obtain ⟨kp, kc, rfl⟩ : ∃ p c, kv = .slice p ks.length c := by obtain ⟨p, q, hv, _⟩ := hKV.out; exact ⟨p, q, hv⟩
      have hk0 : (0 : Int) ≤ (k : Int) := by omega
      have HKL := Lib.hid hkl; clear hkl
      have HB := below_alloc (Below.refl wr.heap.size wr) (.cells #[] 9)
      have hD1 := hD.beside (Mv.new (S := [6]) HB 6) (by decide) (by decide) (by decide)
      have d1 := cell_below (hD1.mv.toBelow (zc_r w)) q1
      have hnew : Row (paint col wr 6) 6 (wr.alloc (.cells #[] 9)) 9 1 (.slice (some ⟨wr.heap.size, 0, none⟩) 0 0) 0 [] := ⟨World.ownsRow_made wr #[] 0 (Nat.zero_le _) (by unfold maxLen; omega) (by simp), fun g hg => by simp [Value.ownBlock] at hg; subst hg; exact paint_new (Nat.le_refl _)⟩
      have hkv1 := (hKV.out.mv hD1.mv (fun _ h => h))
      clear hD HB
      go_wp2_with (at_builtin; refine wpList_append_any rfl (.tmp 29) (.tmp 34) 32 rfl 9 i0 (.string ⟨#[]⟩) 1 16 Try.underlying32 hi hz0 hz1 hz2 rfl (by decide) _ 0 [] rfl hnew kp ks.length kc (ks.flatMap encK) rfl (encK_ok.length ks) ?c1 (encK_ok.ones _) ?c2 ?c3 ?k1)
      case c1 =>
        intro j u hj
        rw [encK_map, List.getElem?_map] at hj
        obtain ⟨p', c', hv, _, _, hx⟩ := hkv1
        simp only [Value.slice.injEq] at hv
        obtain ⟨rfl, _, _⟩ := hv
        cases hkj : ks[j]? with
        | none => rw [hkj] at hj; simp at hj
        | some x =>
          rw [hkj] at hj
          simp only [Option.map_some, Option.some.injEq] at hj
          subst hj
          obtain ⟨hjl, rfl⟩ := List.getElem?_eq_some_iff.1 hkj
          obtain ⟨g, o, rfl, hc, _⟩ := hx j hjl
          exact ⟨_, rfl, by rw [Addr.add_lit]; exact hc⟩
      case c2 => have := HKL.out; unfold maxLen; omega
      case c3 => have := HKL.out; omega
      case k1 =>
        intro p1 c1 w4 hr4 hC4 hg4
        have hD4 := hD1.beside hC4.mv (by decide) (by decide) (by decide)
        try simp only [Nat.zero_add, List.nil_append] at hr4
        try simp only [Nat.zero_add]
        clear hkv1 hnew hD1 hg4 hC4 d1
        generalize paint (paint col wr 6) (wr.alloc (.cells #[] 9)) 6 = col4 at *
        have HB4 := below_alloc (Below.refl w4.heap.size w4) (.cells #[.string ⟨#[115, 112, 97, 114, 101]⟩] 9)
        have hD5 := hD4.beside (Mv.new (S := [6]) HB4 6) (by decide) (by decide) (by decide)
        have hr5 := hr4.below HB4
        clear hD4 hr4 HB4
        go_wp2_with (at_builtin; refine wpList_append_any rfl (.tmp 35) (.tmp 36) 32 rfl 9 i0 (.string ⟨#[]⟩) 1 16 Try.underlying32 hi hz0 hz1 hz2 rfl (by decide) _ ks.length (ks.flatMap encK) rfl hr5 (some ⟨w4.heap.size, 0, none⟩) 1 1 (encK (⟨#[115, 112, 97, 114, 101]⟩ : ByteArray)) rfl rfl (fun j u hj => ⟨_, rfl, one_str w4 _ _ j u hj⟩) ?c4 ?c5 ?c6 ?k2)
        case c4 => exact encK_ok.one _
        case c5 => have := HKL.out; unfold maxLen; omega
        case c6 => have := HKL.out; omega
        case k2 =>
          intro p2 c2 w6 hr6 hC6 hg6
          have hD6 := hD5.beside hC6.mv (by decide) (by decide) (by decide)
          rw [show ks.flatMap encK ++ encK (⟨#[115, 112, 97, 114, 101]⟩ : ByteArray) = (ks ++ [(⟨#[115, 112, 97, 114, 101]⟩ : ByteArray)]).flatMap encK by rw [List.flatMap_append]; simp] at hr6
          clear hD5 hr5 hg6 hC6
          generalize paint (paint col4 w4 6) (w4.alloc (.cells #[.string ⟨#[115, 112, 97, 114, 101]⟩] 9)) 6 = col6 at *
          obtain ⟨g, cx, cur0, hv, hrest⟩ := hr6.pos (by omega)
          simp only [Value.slice.injEq, true_and] at hv
          obtain ⟨rfl, rfl⟩ := hv
          clear hrest cur0
          obtain ⟨hown, hsp, hnc, hcm⟩ := keys_row hr6 rfl
          unfold maxLen at hcm
          have hnc2 : ks.length ≤ c2 := by omega
          have hlt1 : ks.length < ks.length + 1 := Nat.lt_succ_self _
          generalize hn1' : ks.length + 1 = n1 at *
          have HN1 := Lib.hid hn1'; clear hn1'
          generalize hL' : nL R L since last N ks = L'
          generalize hS' : nS R L since last N ks = s'
          generalize hT' : nT last N = l'
          have hA0 : Stq w c r (.slice (some ⟨g, 0, none⟩) ks.length c2) n1 (.slice (some ⟨g, 0, none⟩) n1 c2) ks R L since last L since last w6 := ⟨col6, hD6.c, hD6.r, hown, hr6, hD6.mv⟩
          have e1 := Stq.mono w c r (.slice (some ⟨g, 0, none⟩) ks.length c2) n1 (.slice (some ⟨g, 0, none⟩) n1 c2) ks R L since last L since last
          have HL := Lib.hid hL'; have HS := Lib.hid hS'; have HT := Lib.hid hT'
          clear hL' hS' hT' hD6 hown hsp hr6
          go_wp2
          refine Ph.region_at (by kernel_rfl) ?_
          refine Ph.at_stage 27 (fun i => if i < 0 then (0, 100, 0) else ([(0, 0, 0), (0, 0, 0), (0, 0, 0), (0, 0, 0), (0, 0, 0), (0, 0, 0), (0, 0, 0), (0, 0, 0), (0, 0, 0), (0, 0, 0), (0, 0, 0), (0, 0, 0), (0, 0, 0), (0, 0, 0), (0, 0, 1), (0, 1, 0), (0, 1, 0), (0, 1, 0), (0, 1, 0), (0, 1, 0), (0, 1, 0), (0, 1, 0), (0, 1, 0), (0, 1, 0), (0, 1, 0), (0, 1, 0), (1, 1, 1)] : List (Nat × Nat × Nat)).getD (i - 0) (0, 0, 0)) (Ph.S3 (Stq w c r (.slice (some ⟨g, 0, none⟩) ks.length c2) n1 (.slice (some ⟨g, 0, none⟩) n1 c2) ks R L since last L since last) (Stq w c r (.slice (some ⟨g, 0, none⟩) ks.length c2) n1 (.slice (some ⟨g, 0, none⟩) n1 c2) ks R L' s' l' L since last) (Stq w c r (.slice (some ⟨g, 0, none⟩) ks.length c2) n1 (.slice (some ⟨g, 0, none⟩) n1 c2) ks R L' s' l' L' s' l')) (by kernel_rfl) (by kernel_rfl) (e1 _ _ hA0 (below_drew (Below.refl _ _))) ?_
          simp only [List.take_succ_cons, List.take_zero, List.drop_succ_cons, List.drop_zero]
          apply Ph.wpPh_q (Ph.S3_mono (Stq.mono _ _ _ _ _ _ _ _ _ _ _ _ _ _) (Stq.mono _ _ _ _ _ _ _ _ _ _ _ _ _ _) (Stq.mono _ _ _ _ _ _ _ _ _ _ _ _ _ _)) 0 0 rfl rfl; (focus (intro k0 hk1 hk2 w1 hS0; go_simp; first | exact rfl | exact ⟨rfl, Below.refl _ _⟩ | exact Below.refl _ _)); simp only [Act.put, List.setIfInBounds_toArray, List.set_cons_zero, List.set_cons_succ]
          apply Ph.wpPh_q (Ph.S3_mono (Stq.mono _ _ _ _ _ _ _ _ _ _ _ _ _ _) (Stq.mono _ _ _ _ _ _ _ _ _ _ _ _ _ _) (Stq.mono _ _ _ _ _ _ _ _ _ _ _ _ _ _)) 0 0 rfl rfl; (focus (intro k0 hk1 hk2 w1 hS0; go_simp; first | exact rfl | exact ⟨rfl, Below.refl _ _⟩ | exact Below.refl _ _)); simp only [Act.put, List.setIfInBounds_toArray, List.set_cons_zero, List.set_cons_succ]
          apply Ph.wpPh_q (Ph.S3_mono (Stq.mono _ _ _ _ _ _ _ _ _ _ _ _ _ _) (Stq.mono _ _ _ _ _ _ _ _ _ _ _ _ _ _) (Stq.mono _ _ _ _ _ _ _ _ _ _ _ _ _ _)) 0 0 rfl rfl; (focus (intro k0 hk1 hk2 w1 hS0; go_simp; first | exact rfl | exact ⟨rfl, Below.refl _ _⟩ | exact Below.refl _ _)); simp only [Act.put, List.setIfInBounds_toArray, List.set_cons_zero, List.set_cons_succ]
          apply Ph.wpPh_q (Ph.S3_mono (Stq.mono _ _ _ _ _ _ _ _ _ _ _ _ _ _) (Stq.mono _ _ _ _ _ _ _ _ _ _ _ _ _ _) (Stq.mono _ _ _ _ _ _ _ _ _ _ _ _ _ _)) 0 0 rfl rfl; (focus (intro k0 hk1 hk2 w1 hS0; go_simp; first | exact rfl | exact ⟨rfl, Below.refl _ _⟩ | exact Below.refl _ _)); simp only [Act.put, List.setIfInBounds_toArray, List.set_cons_zero, List.set_cons_succ]
          apply Ph.wpPh_q (Ph.S3_mono (Stq.mono _ _ _ _ _ _ _ _ _ _ _ _ _ _) (Stq.mono _ _ _ _ _ _ _ _ _ _ _ _ _ _) (Stq.mono _ _ _ _ _ _ _ _ _ _ _ _ _ _)) 0 0 rfl rfl; (focus (intro k0 hk1 hk2 w1 hS0; go_simp; first | exact rfl | exact ⟨rfl, Below.refl _ _⟩ | exact Below.refl _ _)); simp only [Act.put, List.setIfInBounds_toArray, List.set_cons_zero, List.set_cons_succ]
          apply Ph.wpPh_q (Ph.S3_mono (Stq.mono _ _ _ _ _ _ _ _ _ _ _ _ _ _) (Stq.mono _ _ _ _ _ _ _ _ _ _ _ _ _ _) (Stq.mono _ _ _ _ _ _ _ _ _ _ _ _ _ _)) 0 0 rfl rfl; (focus (intro k0 hk1 hk2 w1 hS0; obtain rfl : k0 = 0 := Nat.le_antisymm hk2 hk1; have hbw := Stq.bel hS0; have d0 := cell_below hbw q0; have d1 := cell_below hbw q1; go_simp; first | exact rfl | exact ⟨rfl, Below.refl _ _⟩ | exact Below.refl _ _)); simp only [Act.put, List.setIfInBounds_toArray, List.set_cons_zero, List.set_cons_succ]
          apply Ph.wpPh_q (Ph.S3_mono (Stq.mono _ _ _ _ _ _ _ _ _ _ _ _ _ _) (Stq.mono _ _ _ _ _ _ _ _ _ _ _ _ _ _) (Stq.mono _ _ _ _ _ _ _ _ _ _ _ _ _ _)) 0 0 rfl rfl; (focus (intro k0 hk1 hk2 w1 hS0; go_simp; first | exact rfl | exact ⟨rfl, Below.refl _ _⟩ | exact Below.refl _ _)); simp only [Act.put, List.setIfInBounds_toArray, List.set_cons_zero, List.set_cons_succ]
          apply Ph.wpPh_q (Ph.S3_mono (Stq.mono _ _ _ _ _ _ _ _ _ _ _ _ _ _) (Stq.mono _ _ _ _ _ _ _ _ _ _ _ _ _ _) (Stq.mono _ _ _ _ _ _ _ _ _ _ _ _ _ _)) 0 0 rfl rfl; (focus (intro k0 hk1 hk2 w1 hS0; go_simp; first | exact rfl | exact ⟨rfl, Below.refl _ _⟩ | exact Below.refl _ _)); simp only [Act.put, List.setIfInBounds_toArray, List.set_cons_zero, List.set_cons_succ]
          apply Ph.wpPh_q (Ph.S3_mono (Stq.mono _ _ _ _ _ _ _ _ _ _ _ _ _ _) (Stq.mono _ _ _ _ _ _ _ _ _ _ _ _ _ _) (Stq.mono _ _ _ _ _ _ _ _ _ _ _ _ _ _)) 0 0 rfl rfl; (focus (intro k0 hk1 hk2 w1 hS0; go_simp; first | exact rfl | exact ⟨rfl, Below.refl _ _⟩ | exact Below.refl _ _)); simp only [Act.put, List.setIfInBounds_toArray, List.set_cons_zero, List.set_cons_succ]
          apply Ph.wpPh_q (Ph.S3_mono (Stq.mono _ _ _ _ _ _ _ _ _ _ _ _ _ _) (Stq.mono _ _ _ _ _ _ _ _ _ _ _ _ _ _) (Stq.mono _ _ _ _ _ _ _ _ _ _ _ _ _ _)) 0 0 rfl rfl; (focus (intro k0 hk1 hk2 w1 hS0; go_simp; first | exact rfl | exact ⟨rfl, Below.refl _ _⟩ | exact Below.refl _ _)); simp only [Act.put, List.setIfInBounds_toArray, List.set_cons_zero, List.set_cons_succ]
          apply Ph.wpPh_q (Ph.S3_mono (Stq.mono _ _ _ _ _ _ _ _ _ _ _ _ _ _) (Stq.mono _ _ _ _ _ _ _ _ _ _ _ _ _ _) (Stq.mono _ _ _ _ _ _ _ _ _ _ _ _ _ _)) 0 0 rfl rfl; (focus (intro k0 hk1 hk2 w1 hS0; go_simp; first | exact rfl | exact ⟨rfl, Below.refl _ _⟩ | exact Below.refl _ _)); simp only [Act.put, List.setIfInBounds_toArray, List.set_cons_zero, List.set_cons_succ]
          apply Ph.wpPh_q (Ph.S3_mono (Stq.mono _ _ _ _ _ _ _ _ _ _ _ _ _ _) (Stq.mono _ _ _ _ _ _ _ _ _ _ _ _ _ _) (Stq.mono _ _ _ _ _ _ _ _ _ _ _ _ _ _)) 0 0 rfl rfl; (focus (intro k0 hk1 hk2 w1 hS0; obtain rfl : k0 = 0 := Nat.le_antisymm hk2 hk1; have hbw := Stq.bel hS0; have d0 := cell_below hbw q0; have d1 := cell_below hbw q1; go_simp; first | exact rfl | exact ⟨rfl, Below.refl _ _⟩ | exact Below.refl _ _)); simp only [Act.put, List.setIfInBounds_toArray, List.set_cons_zero, List.set_cons_succ]
          apply Ph.wpPh_q (Ph.S3_mono (Stq.mono _ _ _ _ _ _ _ _ _ _ _ _ _ _) (Stq.mono _ _ _ _ _ _ _ _ _ _ _ _ _ _) (Stq.mono _ _ _ _ _ _ _ _ _ _ _ _ _ _)) 0 0 rfl rfl; (focus (intro k0 hk1 hk2 w1 hS0; go_simp; first | exact rfl | exact ⟨rfl, Below.refl _ _⟩ | exact Below.refl _ _)); simp only [Act.put, List.setIfInBounds_toArray, List.set_cons_zero, List.set_cons_succ]
          apply Ph.wpPh_q (Ph.S3_mono (Stq.mono _ _ _ _ _ _ _ _ _ _ _ _ _ _) (Stq.mono _ _ _ _ _ _ _ _ _ _ _ _ _ _) (Stq.mono _ _ _ _ _ _ _ _ _ _ _ _ _ _)) 0 0 rfl rfl; (focus (intro k0 hk1 hk2 w1 hS0; go_simp; first | exact rfl | exact ⟨rfl, Below.refl _ _⟩ | exact Below.refl _ _)); simp only [Act.put, List.setIfInBounds_toArray, List.set_cons_zero, List.set_cons_succ]
          apply Ph.wpPh_e 0 rfl rfl; (focus (intro w1 hS0; obtain ⟨c', h1, h2, h3, h4, h5⟩ := hS0; go_simp; refine (rc_note c' 1 w1 c L R since last N _ ks h1 (h3.at (by simp))).mono ?_; rintro e w2 ⟨rfl, hB2, hC2⟩; rw [HL.out, HS.out, HT.out] at hB2; exact ⟨rfl, _, hB2, h2.kept hC2.mv (by simp), h3.mv hC2.mv (by simp), h4.kept hC2.mv (by simp), h5.trans (hC2.mv' (by decide))⟩)); simp only [Act.put, List.setIfInBounds_toArray, List.set_cons_zero, List.set_cons_succ]
          apply Ph.wpPh_q (Ph.S3_mono (Stq.mono _ _ _ _ _ _ _ _ _ _ _ _ _ _) (Stq.mono _ _ _ _ _ _ _ _ _ _ _ _ _ _) (Stq.mono _ _ _ _ _ _ _ _ _ _ _ _ _ _)) 0 1 rfl rfl; (focus (intro k0 hk1 hk2 w1 hS0; go_simp; first | exact rfl | exact ⟨rfl, Below.refl _ _⟩ | exact Below.refl _ _)); simp only [Act.put, List.setIfInBounds_toArray, List.set_cons_zero, List.set_cons_succ]
          apply Ph.wpPh_q (Ph.S3_mono (Stq.mono _ _ _ _ _ _ _ _ _ _ _ _ _ _) (Stq.mono _ _ _ _ _ _ _ _ _ _ _ _ _ _) (Stq.mono _ _ _ _ _ _ _ _ _ _ _ _ _ _)) 0 1 rfl rfl; (focus (intro k0 hk1 hk2 w1 hS0; go_simp; first | exact rfl | exact ⟨rfl, Below.refl _ _⟩ | exact Below.refl _ _)); simp only [Act.put, List.setIfInBounds_toArray, List.set_cons_zero, List.set_cons_succ]
          apply Ph.wpPh_q (Ph.S3_mono (Stq.mono _ _ _ _ _ _ _ _ _ _ _ _ _ _) (Stq.mono _ _ _ _ _ _ _ _ _ _ _ _ _ _) (Stq.mono _ _ _ _ _ _ _ _ _ _ _ _ _ _)) 0 1 rfl rfl; (focus (intro k0 hk1 hk2 w1 hS0; go_simp; first | exact rfl | exact ⟨rfl, Below.refl _ _⟩ | exact Below.refl _ _)); simp only [Act.put, List.setIfInBounds_toArray, List.set_cons_zero, List.set_cons_succ]
          apply Ph.wpPh_q (Ph.S3_mono (Stq.mono _ _ _ _ _ _ _ _ _ _ _ _ _ _) (Stq.mono _ _ _ _ _ _ _ _ _ _ _ _ _ _) (Stq.mono _ _ _ _ _ _ _ _ _ _ _ _ _ _)) 0 1 rfl rfl; (focus (intro k0 hk1 hk2 w1 hS0; go_simp; first | exact rfl | exact ⟨rfl, Below.refl _ _⟩ | exact Below.refl _ _)); simp only [Act.put, List.setIfInBounds_toArray, List.set_cons_zero, List.set_cons_succ]
          apply Ph.wpPh_q (Ph.S3_mono (Stq.mono _ _ _ _ _ _ _ _ _ _ _ _ _ _) (Stq.mono _ _ _ _ _ _ _ _ _ _ _ _ _ _) (Stq.mono _ _ _ _ _ _ _ _ _ _ _ _ _ _)) 0 1 rfl rfl; (focus (intro k0 hk1 hk2 w1 hS0; go_simp; first | exact rfl | exact ⟨rfl, Below.refl _ _⟩ | exact Below.refl _ _)); simp only [Act.put, List.setIfInBounds_toArray, List.set_cons_zero, List.set_cons_succ]
          apply Ph.wpPh_q (Ph.S3_mono (Stq.mono _ _ _ _ _ _ _ _ _ _ _ _ _ _) (Stq.mono _ _ _ _ _ _ _ _ _ _ _ _ _ _) (Stq.mono _ _ _ _ _ _ _ _ _ _ _ _ _ _)) 0 1 rfl rfl; (focus (intro k0 hk1 hk2 w1 hS0; (rcases (by omega : k0 = 0 ∨ k0 = 1) with rfl | rfl) <;> (have hbw := Stq.bel hS0; have d0 := cell_below hbw q0; have d1 := cell_below hbw q1; go_simp; first | exact rfl | exact ⟨rfl, Below.refl _ _⟩ | exact Below.refl _ _))); simp only [Act.put, List.setIfInBounds_toArray, List.set_cons_zero, List.set_cons_succ]
          apply Ph.wpPh_q (Ph.S3_mono (Stq.mono _ _ _ _ _ _ _ _ _ _ _ _ _ _) (Stq.mono _ _ _ _ _ _ _ _ _ _ _ _ _ _) (Stq.mono _ _ _ _ _ _ _ _ _ _ _ _ _ _)) 0 1 rfl rfl; (focus (intro k0 hk1 hk2 w1 hS0; go_simp; first | exact rfl | exact ⟨rfl, Below.refl _ _⟩ | exact Below.refl _ _)); simp only [Act.put, List.setIfInBounds_toArray, List.set_cons_zero, List.set_cons_succ]
          apply Ph.wpPh_q (Ph.S3_mono (Stq.mono _ _ _ _ _ _ _ _ _ _ _ _ _ _) (Stq.mono _ _ _ _ _ _ _ _ _ _ _ _ _ _) (Stq.mono _ _ _ _ _ _ _ _ _ _ _ _ _ _)) 0 1 rfl rfl; (focus (intro k0 hk1 hk2 w1 hS0; go_simp; first | exact rfl | exact ⟨rfl, Below.refl _ _⟩ | exact Below.refl _ _)); simp only [Act.put, List.setIfInBounds_toArray, List.set_cons_zero, List.set_cons_succ]
          apply Ph.wpPh_q (Ph.S3_mono (Stq.mono _ _ _ _ _ _ _ _ _ _ _ _ _ _) (Stq.mono _ _ _ _ _ _ _ _ _ _ _ _ _ _) (Stq.mono _ _ _ _ _ _ _ _ _ _ _ _ _ _)) 0 1 rfl rfl; (focus (intro k0 hk1 hk2 w1 hS0; go_simp; first | exact rfl | exact ⟨rfl, Below.refl _ _⟩ | exact Below.refl _ _)); simp only [Act.put, List.setIfInBounds_toArray, List.set_cons_zero, List.set_cons_succ]
          apply Ph.wpPh_q (Ph.S3_mono (Stq.mono _ _ _ _ _ _ _ _ _ _ _ _ _ _) (Stq.mono _ _ _ _ _ _ _ _ _ _ _ _ _ _) (Stq.mono _ _ _ _ _ _ _ _ _ _ _ _ _ _)) 0 1 rfl rfl; (focus (intro k0 hk1 hk2 w1 hS0; go_simp; first | exact rfl | exact ⟨rfl, Below.refl _ _⟩ | exact Below.refl _ _)); simp only [Act.put, List.setIfInBounds_toArray, List.set_cons_zero, List.set_cons_succ]
          apply Ph.wpPh_q (Ph.S3_mono (Stq.mono _ _ _ _ _ _ _ _ _ _ _ _ _ _) (Stq.mono _ _ _ _ _ _ _ _ _ _ _ _ _ _) (Stq.mono _ _ _ _ _ _ _ _ _ _ _ _ _ _)) 0 1 rfl rfl; (focus (intro k0 hk1 hk2 w1 hS0; (rcases (by omega : k0 = 0 ∨ k0 = 1) with rfl | rfl) <;> (have hbw := Stq.bel hS0; have d0 := cell_below hbw q0; have d1 := cell_below hbw q1; go_simp; first | exact rfl | exact ⟨rfl, Below.refl _ _⟩ | exact Below.refl _ _))); simp only [Act.put, List.setIfInBounds_toArray, List.set_cons_zero, List.set_cons_succ]
          apply Ph.wpPh_e 1 rfl rfl; (focus (intro w1 hS0; obtain ⟨c', h1, h2, h3, h4, h5⟩ := hS0; go_simp; refine (rf_note c' 2 w1 r L R since last N _ ks h2 ((hKV.out.mv h5 (fun _ h => h)).at (by decide))).mono ?_; rintro e w2 ⟨rfl, hB2, hC2⟩; rw [HL.out, HS.out, HT.out] at hB2; exact ⟨rfl, _, h1.kept hC2.mv (by simp), hB2, h3.mv hC2.mv (by simp), h4.kept hC2.mv (by simp), h5.trans (hC2.mv' (by decide))⟩)); simp only [Act.put, List.setIfInBounds_toArray, List.set_cons_zero, List.set_cons_succ]
          refine Ph.wpPh_nil ?_; intro w8 hC
          obtain ⟨c8, hB8, hR8, hK8, hr8, hM8⟩ := hC
          clear hK8
          have hsp8 := (keys_row hr8 HN1.out.symm).2.1
          refine Ph.at_quiet 40 (by kernel_rfl) ?_
          simp only [List.take_succ_cons, List.take_zero, List.drop_succ_cons, List.drop_zero]
          repeat ((first | (apply Ph.wpPh_g; (focus (intro w1 hS0; have d1 := cell_below (below_call (hM8.toBelow (zc_r w)) hS0) q1; have dsp := cell_below hS0 hsp8; go_simp; first | exact rfl | exact ⟨rfl, Below.refl _ _⟩)))); simp only [Act.put, List.setIfInBounds_toArray, List.set_cons_zero, List.set_cons_succ])
          refine Ph.wpPh_nil ?_; intro w9 hS9
          refine Ph.at_end (by simp) ?_
          have hD9 := (Duo.mk hB8 hR8 hM8).beside (Mv.of_below (S := [6]) hS9) (by decide) (by decide) (by decide)
          have hr9 := hr8.below' hS9
          clear hB8 hR8 hM8 hr8 hsp8 hA0 e1
          go_wp2
          have hn1 : (ks ++ [(⟨#[115, 112, 97, 114, 101]⟩ : ByteArray)]).length = n1 := by rw [← HN1.out]; simp
          generalize ks ++ [(⟨#[115, 112, 97, 114, 101]⟩ : ByteArray)] = Y0 at *
          go_loopw [11] (fun t wr => IvO w c r L' R s' l' g n1 c2 t wr) (fun t _ => n1 + 1 - (intOf t).toNat)
          case atStart => exact ⟨0, _, Y0, rfl, Nat.zero_le _, hn1, hr9, hD9⟩
          case round =>
            clear hr9 hD9
            obtain ⟨j, col9, Y, rfl, hj, hY, hrj, hDj⟩ := hrel
            by_cases hjl : j < n1
            · obtain ⟨g', c', cur, hv, hg, hnc', hcm', hcs, htk, hgc⟩ := hrj.pos (by omega)
              simp only [Value.slice.injEq, Option.some.injEq, Addr.mk.injEq] at hv
              obtain ⟨⟨rfl, _, _⟩, _, rfl⟩ := hv
              have hst := row_store hrj hY j hjl ⟨#[111, 118, 101, 114]⟩
              have hCh : Ch col9 6 wr (wr.setCell ⟨g, j, none⟩ (.string ⟨#[111, 118, 101, 114]⟩)) := Ch.refl.setCell (paint_of hgc) _
              have hD' := hDj.beside hCh.mv (by decide) (by decide) (by decide)
              obtain ⟨x0, hcell⟩ : ∃ x, wr.cell? ⟨g, j, none⟩ = some x := ⟨cur[j]'(by omega), by rw [hp_cell hg]; simp⟩
              have hfree := hp_free hg j
              have hj0 : (0 : Int) ≤ (j : Int) := by omega
              clear hDj hrj htk hg hcs
              go_wp2
              go_roundw
              case rel => exact ⟨j + 1, _, _, by go_num, by omega, by simpa using hY, hst.recol (fun q hq => by simp [Value.ownBlock] at hq; subst hq; exact paint_of hgc), hD'⟩
              case measure => simp [intOf]; omega
            · go_wp2
              go_roundw
              case rel => exact ⟨k + 1, col9, _, _, _, by go_num, by omega, hDj⟩
              case measure => simp [intOf]; omega
    · have hlenL := hD.c.len; have hcapR := hD.c.cap
      have hL5 : L.length ≤ 1024 := by omega
      go_wp2_with fail
      clear hk hlt
      refine (rc_list col 1 wr c _ _ _ _ hD.c).mono ?_; rintro e w5 ⟨p5, c5, rfl, hr5, hb5⟩
      have hD5 := hD.beside (Mv.new (S := [6]) hb5 6) (by decide) (by decide) (by decide)
      have hr5' : Row (paint col wr 6) 6 w5 82 2 (.slice p5 L.length c5) L.length (L.flatMap encM) := hr5.recol (fun g hg => paint_new (hr5.new hg))
      clear hD hb5 hr5
      generalize paint col wr 6 = col5 at *
      go_wp2
      have HLEN := Lib.hid hlenL; clear hlenL
      go_loopw [13] (fun t wr => IvL w c r L R since last p5 L.length c5 t wr) (fun t _ => L.length + 1 - (intOf t).toNat)
      case atStart => exact ⟨0, _, L, rfl, Nat.zero_le _, rfl, hr5', hD5⟩
      case round =>
        clear hr5' hD5
        obtain ⟨j, col3, X, rfl, hj, hX, hr, hF⟩ := hrel
        by_cases hjl : j < L.length
        · obtain ⟨g, c', cur, hv, hg, hnc, hcm, hcs, htk, hgc⟩ := hr.pos (by omega)
          simp only [Value.slice.injEq] at hv
          obtain ⟨rfl, _, rfl⟩ := hv
          have hst := hr.set2 hX j hjl ((-1 : Int), (⟨#[]⟩ : ByteArray))
          have hCh : Ch col3 6 wr ((wr.setCell ⟨g, j * 2, none⟩ (.int .i64 (-1))).setCell ⟨g, j * 2 + 1, none⟩ (.string ⟨#[]⟩)) := (Ch.refl.setCell (paint_of hgc) _).setCell (paint_of hgc) _
          have hF' := hF.beside hCh.mv (by decide) (by decide) (by decide)
          have fg := hp_free hg
          obtain ⟨x0, cj0⟩ : ∃ x, wr.cell? ⟨g, j * 2, none⟩ = some x := ⟨cur[j * 2]'(by omega), by rw [hp_cell hg]; simp⟩
          obtain ⟨x1, cj1⟩ : ∃ x, wr.cell? ⟨g, j * 2 + 1, none⟩ = some x := ⟨cur[j * 2 + 1]'(by omega), by rw [hp_cell hg]; simp⟩
          have hj0 : (0 : Int) ≤ (j : Int) := by omega
          clear hF hr htk hg hcs
          go_wp2
          go_roundw
          case rel => exact ⟨j + 1, _, _, by go_num, by omega, by simpa using hX, hst.recol (fun q hq => by simp [Value.ownBlock] at hq; subst hq; exact paint_of hgc), hF'⟩
          case measure => simp [intOf]; omega
        · have HB := below_alloc (Below.refl wr.heap.size wr) (.cells #[.int .i64 (-2), .string ⟨#[]⟩] 82)
          have hr' := hr.below HB
          have hF' := hF.beside (Mv.new (S := [6]) HB 6) (by decide) (by decide) (by decide)
          clear hF hr HB
          go_wp2_with (at_builtin; refine wpList_append_any rfl (.tmp 99) (.tmp 101) 62 rfl 82 i1 (.agg #[.int .i64 0, .string ⟨#[]⟩]) 2 24 Try.underlying62 hi' hy0 hy1 hy2 rfl (by decide) _ L.length (X.flatMap encM) rfl hr' (some ⟨wr.heap.size, 0, none⟩) 1 1 (encM (-2, ⟨#[]⟩)) rfl rfl (fun j u hj => ⟨_, rfl, two_cells wr _ _ _ j u hj⟩) ?c7 ?c8 ?c9 ?k3)
          case c7 => exact encM_ok.one _
          case c8 => unfold maxLen; omega
          case c9 => omega
          case k3 =>
            intro p3 c3 w6 hr6 hC6 hg6
            have hF6 := hF'.beside hC6.mv (by decide) (by decide) (by decide)
            clear hF' hr' hr6 hC6 hg6 hj hjl
            generalize paint (paint col3 wr 6) (wr.alloc (.cells #[.int .i64 (-2), .string ⟨#[]⟩] 82)) 6 = col6 at *
            go_wp2
            refine Ph.region_at (by kernel_rfl) ?_
            obtain ⟨pr, cr, hrr, hrow⟩ := hF6.r.open
            refine Ph.at_J 24 [(1, 104), (2, 105), (7, 110), (20, 123), (21, 124), (22, 14), (23, 15)] (J20 w6 col6 L R since last) (J20.mono _ _ _ _ _ _) (J20.dd _ _ _ _ _ _) (by kernel_rfl) (by kernel_rfl) (fun us => ⟨col6, Mv.of_below (below_drew (Below.refl _ _)), K20.zero⟩) ?_
            simp only [List.take_succ_cons, List.take_zero, List.drop_succ_cons, List.drop_zero]
            (first | (apply Ph.wpC_g (by rfl); (focus (intro w1 hS0; have hrq := hp_cell (hp_below hS0 (hp_below (below_drew (Below.refl _ _)) hrr)); go_simp; first | exact rfl | exact ⟨rfl, Below.refl _ _⟩)))); simp only [Act.put, List.setIfInBounds_toArray, List.set_cons_zero, List.set_cons_succ]
            refine Ph.wpC_e (by rfl) ?_ ?_
            · intro us; refine ⟨rfl, ?_⟩; intro d w1 hS0 hdi hanc ⟨cq, hMq, hKq⟩
              simp only [Ph.putG, Nat.reduceLT, reduceIte, Act.put, List.setIfInBounds_toArray, List.set_cons_zero, List.set_cons_succ]
              go_simp
              refine (rc_clone cq 1 w1 c L R since last 3 (hF6.c.kept hMq (by simp))).mono ?_; rintro e w2 ⟨g, rfl, hg, hb2⟩
              exact ⟨_, rfl, hb2.mono hS0.size, paint cq w1 3, hMq.trans (Mv.new (S := [4]) hb2 3), (hKq.kept (Mv.new (S := []) hb2 3) (by simp) (by simp)).s1 (hKq.f22 hdi) g hg⟩
            refine Ph.wpC_e (by rfl) ?_ ?_
            · intro us; refine ⟨rfl, ?_⟩; intro d w1 hS0 hdi hanc ⟨cq, hMq, hKq⟩
              simp only [Ph.putG, Nat.reduceLT, reduceIte, Act.put, List.setIfInBounds_toArray, List.set_cons_zero, List.set_cons_succ]
              go_simp
              have HBn := below_alloc (Below.refl w1.heap.size w1) (.cells #[] 82)
              exact ⟨HBn.mono hS0.size, paint cq w1 4, hMq.trans (Mv.new (S := [4]) HBn 4), (hKq.kept (Mv.new (S := []) HBn 4) (by simp) (by simp)).s2 w1.heap.size hS0.size ⟨World.ownsRow_made w1 #[] 0 (Nat.zero_le _) (by unfold maxLen; omega) (by simp), fun g hg => by simp [Value.ownBlock] at hg; subst hg; exact paint_new (Nat.le_refl _)⟩⟩
            (first | (apply Ph.wpC_g (by rfl); (focus (intro w1 hS0; have hrq := hp_cell (hp_below hS0 (hp_below (below_drew (Below.refl _ _)) hrr)); go_simp; first | exact rfl | exact ⟨rfl, Below.refl _ _⟩)))); simp only [Act.put, List.setIfInBounds_toArray, List.set_cons_zero, List.set_cons_succ]
            (first | (apply Ph.wpC_g (by rfl); (focus (intro w1 hS0; have hrq := hp_cell (hp_below hS0 (hp_below (below_drew (Below.refl _ _)) hrr)); go_simp; first | exact rfl | exact ⟨rfl, Below.refl _ _⟩)))); simp only [Act.put, List.setIfInBounds_toArray, List.set_cons_zero, List.set_cons_succ]
            (first | (apply Ph.wpC_g (by rfl); (focus (intro w1 hS0; have hrq := hp_cell (hp_below hS0 (hp_below (below_drew (Below.refl _ _)) hrr)); go_simp; first | exact rfl | exact ⟨rfl, Below.refl _ _⟩)))); simp only [Act.put, List.setIfInBounds_toArray, List.set_cons_zero, List.set_cons_succ]
            (first | (apply Ph.wpC_g (by rfl); (focus (intro w1 hS0; have hrq := hp_cell (hp_below hS0 (hp_below (below_drew (Below.refl _ _)) hrr)); go_simp; first | exact rfl | exact ⟨rfl, Below.refl _ _⟩)))); simp only [Act.put, List.setIfInBounds_toArray, List.set_cons_zero, List.set_cons_succ]
            refine Ph.wpC_e (by rfl) ?_ ?_
            · intro us; refine ⟨rfl, ?_⟩; intro d w1 hS0 hdi hanc ⟨cq, hMq, hKq⟩
              simp only [Ph.putG, Nat.reduceLT, reduceIte, Act.put, List.setIfInBounds_toArray, List.set_cons_zero, List.set_cons_succ]
              have hd2 : d 2 = true := hanc 2 (by kernel_rfl)
              obtain ⟨g2, e2, hBg2, hrow2⟩ := hKq.k2 hd2
              rw [e2]
              have hrowQ := (hF6.r.kept hMq (by simp)).open
              have hrq := hp_cell (hp_below hS0 (hp_below (below_drew (Below.refl _ _)) hrr))
              have hsrc : ∀ j u, (L.flatMap encM)[j]? = some u → ∃ p, pr = some p ∧ w1.cell? (p.add j) = some u := by
                intro j u hj
                have hrow1 := hrow.kept hMq (by simp)
                have hlt : 0 < L.length := by
                  cases L with
                  | nil => simp at hj
                  | cons x t => simp
                obtain ⟨g, c', cur, hv, _⟩ := hrow1.pos hlt
                simp only [Value.slice.injEq] at hv
                obtain ⟨rfl, _, _⟩ := hv
                exact ⟨_, rfl, by rw [Addr.add_lit, Nat.zero_add]; exact hrow1.cell (g := g) rfl hj⟩
              refine gives_append_any (col := cq) (i := 4) (.tmp 105) (.tmp 109) 62 rfl 82 i1 (.agg #[.int .i64 0, .string ⟨#[]⟩]) 2 24 Try.underlying62 hi' hy0 hy1 hy2 rfl (by decide) _ 0 [] rfl (hrow2 hdi) pr L.length cr (L.flatMap encM) rfl (encM_ok.length L) hsrc (encM_ok.ones _) (by unfold maxLen; omega) (by omega) ?_
              intro p7 c7 w7 hr7 hC7 hg7
              simp only [Nat.zero_add, List.nil_append] at hr7 ⊢
              exact ⟨(Below.refl _ w1).grown hg7 hS0.size (fun q hq => by have hq' : (Value.slice (some ⟨g2, 0, none⟩) 0 0).ownBlock = some q := hq; simp [Value.ownBlock] at hq'; rw [← hq']; exact hBg2), paint cq w1 4, hMq.trans hC7.mv, hKq.s7 hC7 hd2 (hKq.f20 hdi) (hKq.f21 (hKq.f20 hdi)) p7 c7 hr7⟩
            (first | (apply Ph.wpC_g (by rfl); (focus (intro w1 hS0; have hrq := hp_cell (hp_below hS0 (hp_below (below_drew (Below.refl _ _)) hrr)); go_simp; first | exact rfl | exact ⟨rfl, Below.refl _ _⟩)))); simp only [Act.put, List.setIfInBounds_toArray, List.set_cons_zero, List.set_cons_succ]
            (first | (apply Ph.wpC_g (by rfl); (focus (intro w1 hS0; have hrq := hp_cell (hp_below hS0 (hp_below (below_drew (Below.refl _ _)) hrr)); go_simp; first | exact rfl | exact ⟨rfl, Below.refl _ _⟩)))); simp only [Act.put, List.setIfInBounds_toArray, List.set_cons_zero, List.set_cons_succ]
            (first | (apply Ph.wpC_g (by rfl); (focus (intro w1 hS0; have hrq := hp_cell (hp_below hS0 (hp_below (below_drew (Below.refl _ _)) hrr)); go_simp; first | exact rfl | exact ⟨rfl, Below.refl _ _⟩)))); simp only [Act.put, List.setIfInBounds_toArray, List.set_cons_zero, List.set_cons_succ]
            (first | (apply Ph.wpC_g (by rfl); (focus (intro w1 hS0; have hrq := hp_cell (hp_below hS0 (hp_below (below_drew (Below.refl _ _)) hrr)); go_simp; first | exact rfl | exact ⟨rfl, Below.refl _ _⟩)))); simp only [Act.put, List.setIfInBounds_toArray, List.set_cons_zero, List.set_cons_succ]
            (first | (apply Ph.wpC_g (by rfl); (focus (intro w1 hS0; have hrq := hp_cell (hp_below hS0 (hp_below (below_drew (Below.refl _ _)) hrr)); go_simp; first | exact rfl | exact ⟨rfl, Below.refl _ _⟩)))); simp only [Act.put, List.setIfInBounds_toArray, List.set_cons_zero, List.set_cons_succ]
            (first | (apply Ph.wpC_g (by rfl); (focus (intro w1 hS0; have hrq := hp_cell (hp_below hS0 (hp_below (below_drew (Below.refl _ _)) hrr)); go_simp; first | exact rfl | exact ⟨rfl, Below.refl _ _⟩)))); simp only [Act.put, List.setIfInBounds_toArray, List.set_cons_zero, List.set_cons_succ]
            (first | (apply Ph.wpC_g (by rfl); (focus (intro w1 hS0; have hrq := hp_cell (hp_below hS0 (hp_below (below_drew (Below.refl _ _)) hrr)); go_simp; first | exact rfl | exact ⟨rfl, Below.refl _ _⟩)))); simp only [Act.put, List.setIfInBounds_toArray, List.set_cons_zero, List.set_cons_succ]
            (first | (apply Ph.wpC_g (by rfl); (focus (intro w1 hS0; have hrq := hp_cell (hp_below hS0 (hp_below (below_drew (Below.refl _ _)) hrr)); go_simp; first | exact rfl | exact ⟨rfl, Below.refl _ _⟩)))); simp only [Act.put, List.setIfInBounds_toArray, List.set_cons_zero, List.set_cons_succ]
            (first | (apply Ph.wpC_g (by rfl); (focus (intro w1 hS0; have hrq := hp_cell (hp_below hS0 (hp_below (below_drew (Below.refl _ _)) hrr)); go_simp; first | exact rfl | exact ⟨rfl, Below.refl _ _⟩)))); simp only [Act.put, List.setIfInBounds_toArray, List.set_cons_zero, List.set_cons_succ]
            (first | (apply Ph.wpC_g (by rfl); (focus (intro w1 hS0; have hrq := hp_cell (hp_below hS0 (hp_below (below_drew (Below.refl _ _)) hrr)); go_simp; first | exact rfl | exact ⟨rfl, Below.refl _ _⟩)))); simp only [Act.put, List.setIfInBounds_toArray, List.set_cons_zero, List.set_cons_succ]
            (first | (apply Ph.wpC_g (by rfl); (focus (intro w1 hS0; have hrq := hp_cell (hp_below hS0 (hp_below (below_drew (Below.refl _ _)) hrr)); go_simp; first | exact rfl | exact ⟨rfl, Below.refl _ _⟩)))); simp only [Act.put, List.setIfInBounds_toArray, List.set_cons_zero, List.set_cons_succ]
            (first | (apply Ph.wpC_g (by rfl); (focus (intro w1 hS0; have hrq := hp_cell (hp_below hS0 (hp_below (below_drew (Below.refl _ _)) hrr)); go_simp; first | exact rfl | exact ⟨rfl, Below.refl _ _⟩)))); simp only [Act.put, List.setIfInBounds_toArray, List.set_cons_zero, List.set_cons_succ]
            refine Ph.wpC_e (by rfl) ?_ ?_
            · intro us; refine ⟨rfl, ?_⟩; intro d w1 hS0 hdi hanc ⟨cq, hMq, hKq⟩
              simp only [Ph.putG, Nat.reduceLT, reduceIte, Act.put, List.setIfInBounds_toArray, List.set_cons_zero, List.set_cons_succ]
              have hd7 : d 7 = true := hanc 7 (by kernel_rfl)
              obtain ⟨p7, c7, e7, hrow7⟩ := hKq.k7 hd7
              rw [e7]
              go_simp
              refine ⟨Below.refl _ _, cq, hMq, ?_⟩
              have := hKq.s20 hd7 (hKq.f21 hdi)
              rw [e7] at this
              exact this
            refine Ph.wpC_e (by rfl) ?_ ?_
            · intro us; refine ⟨rfl, ?_⟩; intro d w1 hS0 hdi hanc ⟨cq, hMq, hKq⟩
              simp only [Ph.putG, Nat.reduceLT, reduceIte, Act.put, List.setIfInBounds_toArray, List.set_cons_zero, List.set_cons_succ]
              have hd20 : d 20 = true := hanc 20 (by kernel_rfl)
              have e20 := (hKq.k20 hd20).2
              rw [e20]
              go_simp
              have HBx := below_alloc (Below.refl w1.heap.size w1) (.cells #[us 7, .int .i64 R, .int .i64 since, .int .i64 last] 65)
              exact ⟨HBx.mono hS0.size, paint cq w1 4, hMq.trans (Mv.new (S := [4]) HBx 4), (hKq.kept (Mv.new (S := []) HBx 4) (by simp) (by simp)).s21 hd20 (hKq.f23 hdi) w1.heap.size ⟨hp_alloc_new w1 _, paint_new (Nat.le_refl _)⟩⟩
            refine Ph.wpC_e (by rfl) ?_ ?_
            · intro us; refine ⟨rfl, ?_⟩; intro d w1 hS0 hdi hanc ⟨cq, hMq, hKq⟩
              simp only [Ph.putG, Nat.reduceLT, reduceIte, Act.put, List.setIfInBounds_toArray, List.set_cons_zero, List.set_cons_succ]
              go_simp
              exact ⟨Below.refl _ _, cq, hMq, hKq.s22 (hanc 1 (by kernel_rfl))⟩
            refine Ph.wpC_e (by rfl) ?_ ?_
            · intro us; refine ⟨rfl, ?_⟩; intro d w1 hS0 hdi hanc ⟨cq, hMq, hKq⟩
              simp only [Ph.putG, Nat.reduceLT, reduceIte, Act.put, List.setIfInBounds_toArray, List.set_cons_zero, List.set_cons_succ]
              go_simp
              exact ⟨Below.refl _ _, cq, hMq, hKq.s23 (hanc 21 (by kernel_rfl))⟩
            refine Ph.wpC_nil ?_; intro us w7 hS7 hJ7
            simp only [Ph.putG, Nat.reduceLT, reduceIte, Act.put, List.setIfInBounds_toArray, List.set_cons_zero, List.set_cons_succ]
            obtain ⟨col7, hM7, hK7⟩ := hJ7
            obtain ⟨gc, x1, hCl⟩ := hK7.k1 rfl
            obtain ⟨p7, c7, x7, hrow7⟩ := hK7.k7 rfl
            obtain ⟨_, gv, x21, hV⟩ := hK7.k21 rfl
            have x22 := (hK7.k22 rfl).2
            have x23 := (hK7.k23 rfl).2
            have hlenV := HLEN.out
            have hRV : Ref col7 4 w7 gv L R since last := ⟨⟨_, by rw [x7] at hV; exact hV, hrow7⟩, hlenV, hcapR⟩
            have hQ7 : Quad w c r gc gv L R since last L since last col7 w7 := ⟨hF6.beside hM7 (by decide) (by decide) (by decide), hCl, hRV⟩
            rw [x23, x22, x21, x1]
            refine Ph.at_end (by simp) ?_
            clear hK7 hM7 hV hrow7 hCl hRV hS7 hlenV x7 x21 x22 x23 x1 hF6 hrr hrow
            go_wp2
            go_loopw [16] (fun t wr => IvQ w c r gc gv L R since last b.length t wr) (fun t _ => b.length + 1 - (intOf t).toNat)
            case atStart => exact ⟨0, _, _, _, _, rfl, Nat.zero_le _, hQ7⟩
            case round =>
              clear hQ7
              obtain ⟨k8, col8, L8, s8, l8, rfl, hk8, hQ⟩ := hrel
              by_cases hlt8 : k8 < b.length
              · obtain ⟨bs, os, kv, rfl, q0, q1, q2, q3, hkeys⟩ := op8_at hsb (hQ.d.mv.toBelow (zc_r w)) k8 hlt8
                have hK := (keys_of hkeys ALLR (by decide)).mv hQ.d.mv (fun _ h => h)
                have hk0 : (0 : Int) ≤ (k8 : Int) := by omega
                clear hkeys
                generalize b[k8] = X at *
                obtain ⟨kp, kc, rfl⟩ : ∃ p c, kv = .slice p X.2.1.length c := by obtain ⟨p, q, hv, _⟩ := hK; exact ⟨p, q, hv⟩
                go_wp2_with (go_at_call 30; refine (step30 3 4 gc gv ALLR (by decide) (by decide) (by decide) (by decide) (by decide) col8 wr L8 R s8 l8 X.1 X.2.2.2 X.2.2.1 _ X.2.1 hQ.c hQ.v hK).mono ?_; rintro e w9 ⟨c9, rfl, hB9, hR9, hM9⟩)
                go_roundw
                case rel => exact ⟨k8 + 1, c9, _, _, _, by go_num, by omega, ⟨hQ.d.beside hM9 (by decide) (by decide) (by decide), hB9, hR9⟩⟩
                case measure => simp [intOf]; omega
              · go_wp2
                clear hk8 hlt8
                obtain ⟨pr, cr, hr3, hrow3⟩ := hQ.d.r.open
                obtain ⟨ps, cs, hs3, hsrow3⟩ := hQ.v.open
                have hn1 : L.length ≤ 1024 := by have := hQ.d.c.len; have := hQ.d.c.cap; omega
                have hn2 : L8.length ≤ 1024 := by have := hQ.c.len; have := hQ.c.cap; omega
                have hbd := below_drew (Below.refl wr.heap.size wr)
                refine Ph.region_at (by kernel_rfl) ?_
                refine Ph.at_ghost 6 1 142 (fun g : Option Addr × Nat => Value.slice g.1 L.length g.2) (fun g w1 => Row zc 0 w1 82 2 (.slice g.1 L.length g.2) L.length (L.flatMap encM)) (fun g a b h hb => h.below' hb) (by kernel_rfl) (by kernel_rfl) (by decide) (by decide) rfl ?_
                simp only [List.take_succ_cons, List.take_zero, List.drop_succ_cons, List.drop_zero]
                (first | (apply Ph.wpGh_g (by decide); (focus (intro w1 hS0; have hbq := below_call hbd hS0; have cr1 := hp_cell (hp_below hbq hr3); go_simp; first | exact rfl | exact ⟨rfl, Below.refl _ _⟩)))); simp only [Act.put, List.setIfInBounds_toArray, List.set_cons_zero, List.set_cons_succ]
                refine Ph.wpGh_e rfl ?_ ?_
                · intro w1 hS0; have hbq := below_call hbd hS0; have cr1 := hp_cell (hp_below hbq hr3); go_simp; refine (rc_list _ 1 w1 c _ _ _ _ (hQ.d.c.below hbq)).mono ?_; rintro e w2 ⟨p', c', rfl, hr', hb'⟩; exact ⟨_, rfl, p', c', rfl, hb', hr'.recol (fun _ _ => rfl)⟩
                (first | (apply Ph.wpGh_g (by decide); (focus (intro w1 hS0; have hbq := below_call hbd hS0; have cr1 := hp_cell (hp_below hbq hr3); go_simp; first | exact rfl | exact ⟨rfl, Below.refl _ _⟩)))); simp only [Act.put, List.setIfInBounds_toArray, List.set_cons_zero, List.set_cons_succ]
                (first | (apply Ph.wpGh_g (by decide); (focus (intro w1 hS0; have hbq := below_call hbd hS0; have cr1 := hp_cell (hp_below hbq hr3); go_simp; first | exact rfl | exact ⟨rfl, Below.refl _ _⟩)))); simp only [Act.put, List.setIfInBounds_toArray, List.set_cons_zero, List.set_cons_succ]
                (first | (apply Ph.wpGh_g (by decide); (focus (intro w1 hS0; have hbq := below_call hbd hS0; have cr1 := hp_cell (hp_below hbq hr3); go_simp; first | exact rfl | exact ⟨rfl, Below.refl _ _⟩)))); simp only [Act.put, List.setIfInBounds_toArray, List.set_cons_zero, List.set_cons_succ]
                (first | (apply Ph.wpGh_g (by decide); (focus (intro w1 hS0; have hbq := below_call hbd hS0; have cr1 := hp_cell (hp_below hbq hr3); go_simp; first | exact rfl | exact ⟨rfl, Below.refl _ _⟩)))); simp only [Act.put, List.setIfInBounds_toArray, List.set_cons_zero, List.set_cons_succ]
                refine Ph.wpGh_nil ?_; intro g1 w2 hS2 hG1; simp only [Act.put, List.setIfInBounds_toArray, List.set_cons_zero, List.set_cons_succ]
                refine Ph.at_op rfl (by kernel_rfl) ?_
                have hb2 := below_call hbd hS2
                go_wp2_with (go_at_call 31; refine (same31_true _ _ _ _ _ _ _ L L.length rfl (by omega) hG1 (hrow3.below' hb2)).mono ?_; rintro e w3 ⟨rfl, hb3⟩)
                replace hb3 := below_call hb2 hb3
                refine Ph.at_ghost 14 9 150 (fun g : Option Addr × Nat => Value.slice g.1 L8.length g.2) (fun g w1 => Row zc 0 w1 82 2 (.slice g.1 L8.length g.2) L8.length (L8.flatMap encM)) (fun g a b h hb => h.below' hb) (by kernel_rfl) (by kernel_rfl) (by decide) (by decide) rfl ?_
                simp only [List.take_succ_cons, List.take_zero, List.drop_succ_cons, List.drop_zero]
                (first | (apply Ph.wpGh_g (by decide); (focus (intro w1 hS0; have hbq := below_call hb3 hS0; have cr1 := hp_cell (hp_below hbq hs3); go_simp; first | exact rfl | exact ⟨rfl, Below.refl _ _⟩)))); simp only [Act.put, List.setIfInBounds_toArray, List.set_cons_zero, List.set_cons_succ]
                (first | (apply Ph.wpGh_g (by decide); (focus (intro w1 hS0; have hbq := below_call hb3 hS0; have cr1 := hp_cell (hp_below hbq hs3); go_simp; first | exact rfl | exact ⟨rfl, Below.refl _ _⟩)))); simp only [Act.put, List.setIfInBounds_toArray, List.set_cons_zero, List.set_cons_succ]
                refine Ph.wpGh_e rfl ?_ ?_
                · intro w1 hS0; have hbq := below_call hb3 hS0; have cr1 := hp_cell (hp_below hbq hs3); go_simp; refine (rc_list _ 3 w1 gc _ _ _ _ (hQ.c.below hbq)).mono ?_; rintro e w2 ⟨p', c', rfl, hr', hb'⟩; exact ⟨_, rfl, p', c', rfl, hb', hr'.recol (fun _ _ => rfl)⟩
                (first | (apply Ph.wpGh_g (by decide); (focus (intro w1 hS0; have hbq := below_call hb3 hS0; have cr1 := hp_cell (hp_below hbq hs3); go_simp; first | exact rfl | exact ⟨rfl, Below.refl _ _⟩)))); simp only [Act.put, List.setIfInBounds_toArray, List.set_cons_zero, List.set_cons_succ]
                (first | (apply Ph.wpGh_g (by decide); (focus (intro w1 hS0; have hbq := below_call hb3 hS0; have cr1 := hp_cell (hp_below hbq hs3); go_simp; first | exact rfl | exact ⟨rfl, Below.refl _ _⟩)))); simp only [Act.put, List.setIfInBounds_toArray, List.set_cons_zero, List.set_cons_succ]
                (first | (apply Ph.wpGh_g (by decide); (focus (intro w1 hS0; have hbq := below_call hb3 hS0; have cr1 := hp_cell (hp_below hbq hs3); go_simp; first | exact rfl | exact ⟨rfl, Below.refl _ _⟩)))); simp only [Act.put, List.setIfInBounds_toArray, List.set_cons_zero, List.set_cons_succ]
                (first | (apply Ph.wpGh_g (by decide); (focus (intro w1 hS0; have hbq := below_call hb3 hS0; have cr1 := hp_cell (hp_below hbq hs3); go_simp; first | exact rfl | exact ⟨rfl, Below.refl _ _⟩)))); simp only [Act.put, List.setIfInBounds_toArray, List.set_cons_zero, List.set_cons_succ]
                refine Ph.wpGh_nil ?_; intro g2 w5 hS5 hG2; simp only [Act.put, List.setIfInBounds_toArray, List.set_cons_zero, List.set_cons_succ]
                refine Ph.at_op rfl (by kernel_rfl) ?_
                have hb5 := below_call hb3 hS5
                go_wp2_with (go_at_call 31; refine (same31_true _ _ _ _ _ _ _ L8 L8.length rfl (by omega) hG2 (hsrow3.below' hb5)).mono ?_; rintro e w3 ⟨rfl, hb6⟩)
                replace hb6 := below_call hb5 hb6
                refine Ph.at_quiet 26 (by kernel_rfl) ?_
                simp only [List.take_succ_cons, List.take_zero, List.drop_succ_cons, List.drop_zero]
                repeat ((first | (apply Ph.wpPh_g; (focus (intro w1 hS0; have hbq := below_call hb6 hS0; have cr1 := hp_cell (hp_below hbq hs3); have cr2 := hp_cell (hp_below hbq hr3); go_simp; first | exact rfl | exact ⟨rfl, Below.refl _ _⟩ | ((go_at_call 44; refine (rc_last _ 1 _ c _ _ _ _ (hQ.d.c.below hbq)).mono ?_; rintro e w' ⟨rfl, rfl⟩; exact ⟨rfl, Below.refl _ _⟩)))))); simp only [Act.put, List.setIfInBounds_toArray, List.set_cons_zero, List.set_cons_succ])
                refine Ph.wpPh_nil ?_; intro w8 hS8
                refine Ph.at_end (by simp) ?_
                go_wp2
                go_ret
                exact ⟨rfl, below_call (hQ.d.mv.toBelow (zc_r w)) (below_call hb6 hS8)⟩

end Go.Proofs.Ytgacbfbjikjanaa
