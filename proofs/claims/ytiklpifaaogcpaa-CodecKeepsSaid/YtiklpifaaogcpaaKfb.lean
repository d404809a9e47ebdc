/- CodecKeeps: its walk. -/
import Derived.Test.YtiklpifaaogcpaaKfa
import Derived.Test.YtiklpifaaogcpaaKcf
import Derived.WalkKit
import Derived.WalkLawsBesides
import Derived.WalkSpells
import Derived.Below
import Derived.Deep.RegionHeld3
import Derived.Deep.QuietTactic
import Derived.BigQuiet
import Derived.Deep.DeepCutAuto
import Derived.Deep.DeepMust
import Derived.KernelRfl
import Derived.Lib.Hide
import Derived.Outline
import Derived.RegionTactic
import Derived.StillTailTactics
import Derived.Laws.IdiomStrings
import Derived.Handy
namespace Go.Proofs.Ytiklpifaaogcpaa
open Go.RowKit Go.Cl Go.Wr Go.Kc
set_option maxRecDepth 100000
set_option linter.unusedVariables false
set_option linter.unusedSimpArgs false


def Cut1 (w : World) (kind node inc ses tx seq lo hi err n : Int) (key data : ByteArray) (has hit : Bool) (W : List Wt) (K : List ByteArray) (wp kp : Option Addr) (wq kq : Nat) (b3 : Nat) (V : World) : Prop := ∃ p1 c1, hp V w.heap.size = some (.cells #[.int .i64 kind, .int .i64 node, .int .i64 inc, .int .i64 ses, .int .i64 tx, .int .i64 seq, .string key, .int .i64 lo, .int .i64 hi, .bool has, .string data, .bool hit, .int .i64 err, .int .i64 n, .slice wp W.length wq, .slice kp K.length kq] 30 (0, 0)) ∧ hp V b3 = some (.cells #[.int .i64 kind, .int .i64 node, .int .i64 inc, .int .i64 ses, .int .i64 tx, .int .i64 seq, .string key, .int .i64 lo, .int .i64 hi, .bool has, .string data, .bool hit, .int .i64 err, .int .i64 n, .slice p1 W.length c1, .slice kp K.length kq] 30 (0, 0)) ∧ W.length + 1 ≤ c1 ∧ LsW V p1 c1 (W ++ [⟨⟨#[115, 112, 97, 114, 101]⟩, false, ⟨#[]⟩⟩]) ∧ (∀ g o, p1 = some ⟨g, o, none⟩ → g ≠ b3) ∧ Below w.heap.size w V
def Cut2 (w : World) (kind node inc ses tx seq lo hi err n : Int) (key data : ByteArray) (has hit : Bool) (W : List Wt) (K : List ByteArray) (wp kp : Option Addr) (wq kq : Nat) (b3 : Nat) (V : World) : Prop := ∃ p1 c1 p2 c2, hp V w.heap.size = some (.cells #[.int .i64 kind, .int .i64 node, .int .i64 inc, .int .i64 ses, .int .i64 tx, .int .i64 seq, .string key, .int .i64 lo, .int .i64 hi, .bool has, .string data, .bool hit, .int .i64 err, .int .i64 n, .slice wp W.length wq, .slice kp K.length kq] 30 (0, 0)) ∧ hp V b3 = some (.cells #[.int .i64 kind, .int .i64 node, .int .i64 inc, .int .i64 ses, .int .i64 tx, .int .i64 seq, .string key, .int .i64 lo, .int .i64 hi, .bool has, .string data, .bool hit, .int .i64 err, .int .i64 n, .slice p1 W.length c1, .slice p2 K.length c2] 30 (0, 0)) ∧ W.length + 1 ≤ c1 ∧ LsW V p1 c1 (W ++ [⟨⟨#[115, 112, 97, 114, 101]⟩, false, ⟨#[]⟩⟩]) ∧ K.length + 1 ≤ c2 ∧ LsS V p2 c2 (K ++ [⟨#[115, 112, 97, 114, 101]⟩]) ∧ Below w.heap.size w V
set_option maxHeartbeats 8000000 in
theorem c_keepsR (kind node inc ses tx seq lo hi err n : Int) (key data : ByteArray) (has hit : Bool) (W : List Wt) (K : List ByteArray) (wp kp : Option Addr) (wq kq : Nat) (w : World) (hIn : Mg.In ⟨kind, node, inc, ses, tx, seq, key, lo, hi, has, data, hit, err, n, W, K⟩) (hW : LsW w wp wq W) (hK : LsS w kp kq K) (hWn : W.length * 40 ≤ 140737488351232) (hKn : K.length * 16 ≤ 140737488351232) :
    Calls Try.prog 8 #[.agg #[.int .i64 kind, .int .i64 node, .int .i64 inc, .int .i64 ses, .int .i64 tx, .int .i64 seq, .string key, .int .i64 lo, .int .i64 hi, .bool has, .string data, .bool hit, .int .i64 err, .int .i64 n, .slice wp W.length wq, .slice kp K.length kq]] w fun e w' => e = .returned (.bool true) ∧ Below w.heap.size w w' := by
  have hz := hp_alloc_new w (.cells #[.int .i64 kind, .int .i64 node, .int .i64 inc, .int .i64 ses, .int .i64 tx, .int .i64 seq, .string key, .int .i64 lo, .int .i64 hi, .bool has, .string data, .bool hit, .int .i64 err, .int .i64 n, .slice wp W.length wq, .slice kp K.length kq] 30)
  have hba : Below w.heap.size w (w.alloc (.cells #[.int .i64 kind, .int .i64 node, .int .i64 inc, .int .i64 ses, .int .i64 tx, .int .i64 seq, .string key, .int .i64 lo, .int .i64 hi, .bool has, .string data, .bool hit, .int .i64 err, .int .i64 n, .slice wp W.length wq, .slice kp K.length kq] 30)) := below_alloc (Below.refl _ _) _
  have HBA := Lib.hid hba
  have HZ0 := Lib.hid hz
  have HWK := Lib.hid (And.intro hW hK)
  have HN := Lib.hid (And.intro hWn hKn)
  have HI := Lib.hid hIn
  clear hz hba hW hK hWn hKn hIn
  go_enter Try.func8, Try.ntmps8
  go_wp2_with fail
  refine (c_fixed _).mono ?_
  rintro e w0 ⟨rfl, hb0⟩
  have hb00 := below_call HBA.out hb0
  have k1 := hp_below hb0 HZ0.out
  clear hb0 HBA HZ0
  dsimp only
  iterate 13 go_step
  refine ld_op rfl (.tmp 1) rfl w.heap.size rfl #[.int .i64 kind, .int .i64 node, .int .i64 inc, .int .i64 ses, .int .i64 tx, .int .i64 seq, .string key, .int .i64 lo, .int .i64 hi, .bool has, .string data, .bool hit, .int .i64 err, .int .i64 n, .slice wp W.length wq, .slice kp K.length kq] k1 rfl ?_
  simp only [Act.put, List.setIfInBounds_toArray, List.set_cons_zero, List.set_cons_succ]
  refine al_op rfl rfl ?_
  simp only [Act.put, List.setIfInBounds_toArray, List.set_cons_zero, List.set_cons_succ]
  refine st_op rfl (.tmp 3) (.tmp 14) rfl w0.heap.size #[.int .i64 kind, .int .i64 node, .int .i64 inc, .int .i64 ses, .int .i64 tx, .int .i64 seq, .string key, .int .i64 lo, .int .i64 hi, .bool has, .string data, .bool hit, .int .i64 err, .int .i64 n, .slice wp W.length wq, .slice kp K.length kq] rfl rfl Z30 (hp_alloc_new _ _) rfl rfl (by simp [Value.oneCell']) ?_
  simp only [Act.put, List.setIfInBounds_toArray, List.set_cons_zero, List.set_cons_succ]
  have k3 := hp_row (cs' := #[.int .i64 kind, .int .i64 node, .int .i64 inc, .int .i64 ses, .int .i64 tx, .int .i64 seq, .string key, .int .i64 lo, .int .i64 hi, .bool has, .string data, .bool hit, .int .i64 err, .int .i64 n, .slice wp W.length wq, .slice kp K.length kq]) (hp_alloc_new w0 (.cells Z30 30))
  have hb03 : Below w0.heap.size w0 ((w0.alloc (.cells Z30 30)).setRow w0.heap.size #[.int .i64 kind, .int .i64 node, .int .i64 inc, .int .i64 ses, .int .i64 tx, .int .i64 seq, .string key, .int .i64 lo, .int .i64 hi, .bool has, .string data, .bool hit, .int .i64 err, .int .i64 n, .slice wp W.length wq, .slice kp K.length kq]) := below_row (by (repeat (first | (with_reducible exact Below.refl _ _) | (with_reducible refine below_drew ?_) | (with_reducible refine below_alloc ?_ _)))) (Nat.le_refl _) _
  have k1' := hp_below hb03 k1
  have hne : w.heap.size ≠ w0.heap.size := by have := hp_lt k1; omega
  have hb3 := below_call hb00 hb03
  have hle3 : w.heap.size ≤ w0.heap.size := Nat.le_of_lt (hp_lt k1)
  clear hb00 hb03 k1
  generalize (w0.alloc (.cells Z30 30)).setRow w0.heap.size #[.int .i64 kind, .int .i64 node, .int .i64 inc, .int .i64 ses, .int .i64 tx, .int .i64 seq, .string key, .int .i64 lo, .int .i64 hi, .bool has, .string data, .bool hit, .int .i64 err, .int .i64 n, .slice wp W.length wq, .slice kp K.length kq] = w3 at *
  generalize w0.heap.size = b3 at *
  iterate 4 go_step
  go_cut [1, 3] (fun s1 s3 V => s1 = .pointer (some ⟨w.heap.size, 0, none⟩) ∧ s3 = .pointer (some ⟨b3, 0, none⟩) ∧ Cut1 w kind node inc ses tx seq lo hi err n key data has hit W K wp kp wq kq b3 V)
  case first =>
    refine Ph.region_at (by kernel_rfl) ?_
    obtain ⟨i0, hi0, hz0, hz1, hz2⟩ := info_parts Try.info49
    have HZ := Lib.hid (And.intro hi0 (And.intro hz0 (And.intro hz1 hz2)))
    clear hi0 hz0 hz1 hz2
    have h1 := hp_below (below_drew (Below.refl w3.heap.size w3)) k1'
    have h3 := hp_below (below_drew (Below.refl w3.heap.size w3)) k3
    have hbu := below_drew hb3
    have e1 : paint zc w3.drew 3 w.heap.size ≠ 3 := by rw [paint_old (hp_lt h1)]; simp [zc]
    have e3 : paint zc w3.drew 3 b3 ≠ 3 := by rw [paint_old (hp_lt h3)]; simp [zc]
    have HC : Ch zc 3 w3.drew w3.drew := Ch.refl
    clear k1' k3 hb3
    generalize w3.drew = u0 at *
    refine Ph.at_freeX 11 (fun i => i == 1 || i == 2 || i == 4 || i == 7 || i == 8 || i == 9) (fun w' => w'.cell? ⟨w.heap.size, 14, none⟩ = some (.slice wp W.length wq)) [0, 3, 5, 6, 10] (by kernel_rfl) (by rfl) ?_
    rw [show Ph.frees (fun i => i == 1 || i == 2 || i == 4 || i == 7 || i == 8 || i == 9) 0 11 = [1, 2, 4, 7, 8, 9] from rfl]
    apply Ph.wpFx_op rfl; (focus (intro w1 hT; go_simp; exact rfl)); simp only [List.getElem_toArray, List.getElem_cons_succ, List.getElem_cons_zero, Act.put, List.setIfInBounds_toArray, List.set_cons_zero, List.set_cons_succ]
    apply Ph.wpFx_op rfl; (focus (intro w1 hT; go_simp; exact rfl)); simp only [List.getElem_toArray, List.getElem_cons_succ, List.getElem_cons_zero, Act.put, List.setIfInBounds_toArray, List.set_cons_zero, List.set_cons_succ]
    apply Ph.wpFx_op rfl; (focus (intro w1 hT; go_simp; exact rfl)); simp only [List.getElem_toArray, List.getElem_cons_succ, List.getElem_cons_zero, Act.put, List.setIfInBounds_toArray, List.set_cons_zero, List.set_cons_succ]
    apply Ph.wpFx_op rfl; (focus (intro w1 hT; go_simp; exact rfl)); simp only [List.getElem_toArray, List.getElem_cons_succ, List.getElem_cons_zero, Act.put, List.setIfInBounds_toArray, List.set_cons_zero, List.set_cons_succ]
    apply Ph.wpFx_op rfl; (focus (intro w1 hT; go_simp; exact rfl)); simp only [List.getElem_toArray, List.getElem_cons_succ, List.getElem_cons_zero, Act.put, List.setIfInBounds_toArray, List.set_cons_zero, List.set_cons_succ]
    apply Ph.wpFx_op rfl; (focus (intro w1 hT; go_simp; exact rfl)); simp only [List.getElem_toArray, List.getElem_cons_succ, List.getElem_cons_zero, Act.put, List.setIfInBounds_toArray, List.set_cons_zero, List.set_cons_succ]
    refine Ph.wpFx_nil ?_
    rw [show List.length [0, 3, 5, 6, 10] = 5 from rfl]
    refine Ph.wpX_any (hp_cell h1 14) ?_
    intro i hi hr
    obtain rfl | rfl | rfl | rfl | rfl := (by simpa using hi : i = 0 ∨ i = 3 ∨ i = 5 ∨ i = 6 ∨ i = 10)
    · clear hi hr
      rw [show List.erase [0, 3, 5, 6, 10] 0 = [3, 5, 6, 10] from rfl]
      refine X_op rfl rfl (S := fun w' => (u0.alloc (.cells #[] 49)) = w') (by go_simp; first | exact rfl | exact ⟨rfl, rfl⟩) ?_
      rintro _ rfl
      simp only [List.getElem_toArray, List.getElem_cons_succ, List.getElem_cons_zero, Act.put, List.setIfInBounds_toArray, List.set_cons_zero, List.set_cons_succ]
      have hbx_1 : Below u0.heap.size u0 (u0.alloc (.cells #[] 49)) := below_alloc (Below.refl _ _) _
      have hz_1 := hp_alloc_new u0 (.cells #[] 49)
      have h1_1 := hp_below hbx_1 h1
      have h3_1 := hp_below hbx_1 h3
      have HC_1 := HC.below hbx_1
      have hr_1 : Row (paint zc u0 3) 3 (u0.alloc (.cells #[] 49)) 49 3 (.slice (some ⟨u0.heap.size, 0, none⟩) 0 0) 0 [] := Row.mk' (cur := #[]) hz_1 (Nat.zero_le _) (by decide) rfl rfl rfl (paint_new HC.size)
      generalize hU_1 : (u0.alloc (.cells #[] 49)) = U_1 at *
      generalize hG_1 : u0.heap.size = G_1 at *
      clear hU_1 hG_1
      refine Ph.wpX_any (hp_cell h1_1 14) ?_
      intro i hi hr
      obtain rfl | rfl | rfl | rfl := (by simpa using hi : i = 3 ∨ i = 5 ∨ i = 6 ∨ i = 10)
      · clear hi hr
        refine ⟨_, rfl, rfl, ?_⟩
        rw [show List.erase [3, 5, 6, 10] 3 = [5, 6, 10] from rfl]
        refine gives_app0W (HWK.out.1.below (below_call hbu (below_of_ch (by decide) HC_1))) (.tmp 15) (.tmp 17) rfl rfl hr_1 rfl (Nat.le_trans HN.out.1 (by decide)) ?_
        intro pA_2 cA_2 U_2 hr_2 hCh hg
        simp only [List.getElem_toArray, List.getElem_cons_succ, List.getElem_cons_zero, Act.put, List.setIfInBounds_toArray, List.set_cons_zero, List.set_cons_succ]
        rw [paint_paint HC_1.size] at hr_2
        have HC_2 := HC_1.trans hCh
        have h1_2 := hp_ch h1_1 hCh e1
        have h3_2 := hp_ch h3_1 hCh e3
        clear hCh hg
        refine Ph.wpX_any (hp_cell h1_2 14) ?_
        intro i hi hr
        obtain rfl | rfl | rfl := (by simpa using hi : i = 5 ∨ i = 6 ∨ i = 10)
        · clear hi hr
          rw [show List.erase [5, 6, 10] 5 = [6, 10] from rfl]
          refine X_op rfl rfl (S := fun w' => (U_2.alloc (.cells #[.string ⟨#[115, 112, 97, 114, 101]⟩, .bool false, .string ⟨#[]⟩] 49)) = w') (by go_simp; first | exact rfl | exact ⟨rfl, rfl⟩) ?_
          rintro _ rfl
          simp only [List.getElem_toArray, List.getElem_cons_succ, List.getElem_cons_zero, Act.put, List.setIfInBounds_toArray, List.set_cons_zero, List.set_cons_succ]
          have hbx_3 : Below U_2.heap.size U_2 (U_2.alloc (.cells #[.string ⟨#[115, 112, 97, 114, 101]⟩, .bool false, .string ⟨#[]⟩] 49)) := below_alloc (Below.refl _ _) _
          have hz_3 := hp_alloc_new U_2 (.cells #[.string ⟨#[115, 112, 97, 114, 101]⟩, .bool false, .string ⟨#[]⟩] 49)
          have h1_3 := hp_below hbx_3 h1_2
          have h3_3 := hp_below hbx_3 h3_2
          have HC_3 := HC_2.below hbx_3
          have hs_3 := hz_3
          have hr_3 := hr_2.kept (Mv.of_below (S := []) (col := paint zc u0 3) hbx_3) (by simp)
          generalize hU_3 : (U_2.alloc (.cells #[.string ⟨#[115, 112, 97, 114, 101]⟩, .bool false, .string ⟨#[]⟩] 49)) = U_3 at *
          generalize hG_3 : U_2.heap.size = G_3 at *
          clear hU_3 hG_3
          refine Ph.wpX_any (hp_cell h1_3 14) ?_
          intro i hi hr
          obtain rfl | rfl := (by simpa using hi : i = 6 ∨ i = 10)
          · clear hi hr
            refine ⟨_, rfl, rfl, ?_⟩
            rw [show List.erase [6, 10] 6 = [10] from rfl]
            refine gives_append_col (.tmp 18) (.tmp 20) 27 rfl 49 i0 (.agg #[.string ⟨#[]⟩, .bool false, .string ⟨#[]⟩]) 3 40 Try.underlying27 HZ.out.1 HZ.out.2.1 HZ.out.2.2.1 HZ.out.2.2.2 rfl (by decide) (.slice pA_2 W.length cA_2) W.length (W.flatMap encW) rfl hr_3 ⟨G_3, 0, none⟩ 1 1 (encW (⟨⟨#[115, 112, 97, 114, 101]⟩, false, ⟨#[]⟩⟩ : Wt)) rfl rfl (fun j u hu => by have := hp_cell hs_3 j; rw [Addr.add_lit, Nat.zero_add, this]; simpa [encW] using hu) (encW_one _) (by have := HN.out.1; unfold maxLen; omega) (by have := HN.out.1; omega) ?_
            intro pB_4 cB_4 U_4 hr_4 hCh hg
            simp only [List.getElem_toArray, List.getElem_cons_succ, List.getElem_cons_zero, Act.put, List.setIfInBounds_toArray, List.set_cons_zero, List.set_cons_succ]
            rw [paint_paint HC_3.size] at hr_4
            have HC_4 := HC_3.trans hCh
            have h1_4 := hp_ch h1_3 hCh e1
            have h3_4 := hp_ch h3_3 hCh e3
            clear hCh hg
            have hL_4 : Row (paint zc u0 3) 3 U_4 49 3 (.slice pB_4 (W ++ [(⟨⟨#[115, 112, 97, 114, 101]⟩, false, ⟨#[]⟩⟩ : Wt)]).length cB_4) (W ++ [(⟨⟨#[115, 112, 97, 114, 101]⟩, false, ⟨#[]⟩⟩ : Wt)]).length ((W ++ [(⟨⟨#[115, 112, 97, 114, 101]⟩, false, ⟨#[]⟩⟩ : Wt)]).flatMap encW) := by
              have e1 : (W ++ [(⟨⟨#[115, 112, 97, 114, 101]⟩, false, ⟨#[]⟩⟩ : Wt)]).length = W.length + 1 := by simp
              have e2 : (W ++ [(⟨⟨#[115, 112, 97, 114, 101]⟩, false, ⟨#[]⟩⟩ : Wt)]).flatMap encW = W.flatMap encW ++ encW (⟨⟨#[115, 112, 97, 114, 101]⟩, false, ⟨#[]⟩⟩ : Wt) := by simp
              rw [e1, e2]; exact hr_4
            have hcap_4 : W.length + 1 ≤ cB_4 := by have := (row_lsW hL_4).cap.1; simpa using this
            obtain ⟨gB_4, oB_4, rfl, -⟩ := (row_lsW hL_4).at_ W.length (⟨⟨#[115, 112, 97, 114, 101]⟩, false, ⟨#[]⟩⟩ : Wt) (by simp)
            refine Ph.wpX_any (hp_cell h1_4 14) ?_
            intro i hi hr
            obtain rfl := (by simpa using hi : i = 10)
            clear hi hr
            rw [show List.erase [10] 10 = [] from rfl]
            have hle : W.length ≤ cB_4 := by omega
            have hli : (W.length : Int) ≤ (cB_4 : Int) := by omega
            refine X_op rfl rfl (v := .slice (some ⟨gB_4, oB_4, none⟩) W.length cB_4) (S := fun w' => U_4 = w') (by go_simp; try (first | exact rfl | exact ⟨rfl, rfl⟩)) ?_
            rintro _ rfl
            simp only [List.getElem_toArray, List.getElem_cons_succ, List.getElem_cons_zero, Act.put, List.setIfInBounds_toArray, List.set_cons_zero, List.set_cons_succ]
            clear hle hli
            refine Ph.wpX_nil (hp_cell h1_4 14) ?_
            have hc3 := hp_cell h3_4
            have hf3 := hp_free h3_4
            refine Ph.at_op rfl (by kernel_rfl) ?_
            go_wp2
            refine Ph.at_op rfl (by kernel_rfl) ?_
            go_wp2
            refine Ph.at_end (by simp) ?_
            go_wp2
            go_meet
            have hnB := hL_4.ne h3_4 (by decide)
            exact ⟨rfl, rfl, some ⟨gB_4, oB_4, none⟩, cB_4, hp_set_ne h1_4 (p := ⟨b3, 14, none⟩) hne _, hp_set h3_4 (i := 14) (.slice (some ⟨gB_4, oB_4, none⟩) W.length cB_4), hcap_4, row_lsW (hL_4.set hnB (p := ⟨b3, 14, none⟩) (.slice (some ⟨gB_4, oB_4, none⟩) W.length cB_4)), fun g o e => by injection e with e; injection e with e1 e2; subst e1; intro e3; exact hnB (by rw [← e3]; rfl), below_set (below_call hbu (below_of_ch (by decide) HC_4)) (p := ⟨b3, 14, none⟩) hle3 _⟩
          · exact absurd ((show Ph.anc _ 10 6 = true by kernel_rfl).symm.trans (hr 6 (by simp))) (by decide)
        · exact absurd ((show Ph.anc _ 6 5 = true by kernel_rfl).symm.trans (hr 5 (by simp))) (by decide)
        · exact absurd ((show Ph.anc _ 10 6 = true by kernel_rfl).symm.trans (hr 6 (by simp))) (by decide)
      · clear hi hr
        rw [show List.erase [3, 5, 6, 10] 5 = [3, 6, 10] from rfl]
        refine X_op rfl rfl (S := fun w' => (U_1.alloc (.cells #[.string ⟨#[115, 112, 97, 114, 101]⟩, .bool false, .string ⟨#[]⟩] 49)) = w') (by go_simp; first | exact rfl | exact ⟨rfl, rfl⟩) ?_
        rintro _ rfl
        simp only [List.getElem_toArray, List.getElem_cons_succ, List.getElem_cons_zero, Act.put, List.setIfInBounds_toArray, List.set_cons_zero, List.set_cons_succ]
        have hbx_6 : Below U_1.heap.size U_1 (U_1.alloc (.cells #[.string ⟨#[115, 112, 97, 114, 101]⟩, .bool false, .string ⟨#[]⟩] 49)) := below_alloc (Below.refl _ _) _
        have hz_6 := hp_alloc_new U_1 (.cells #[.string ⟨#[115, 112, 97, 114, 101]⟩, .bool false, .string ⟨#[]⟩] 49)
        have h1_6 := hp_below hbx_6 h1_1
        have h3_6 := hp_below hbx_6 h3_1
        have HC_6 := HC_1.below hbx_6
        have hs_6 := hz_6
        have hr_6 := hr_1.kept (Mv.of_below (S := []) (col := paint zc u0 3) hbx_6) (by simp)
        have hn_6 : U_1.heap.size ≠ G_1 := by have := hr_1.lt (g := G_1) rfl; omega
        generalize hU_6 : (U_1.alloc (.cells #[.string ⟨#[115, 112, 97, 114, 101]⟩, .bool false, .string ⟨#[]⟩] 49)) = U_6 at *
        generalize hG_6 : U_1.heap.size = G_6 at *
        clear hU_6 hG_6
        refine Ph.wpX_any (hp_cell h1_6 14) ?_
        intro i hi hr
        obtain rfl | rfl | rfl := (by simpa using hi : i = 3 ∨ i = 6 ∨ i = 10)
        · clear hi hr
          refine ⟨_, rfl, rfl, ?_⟩
          rw [show List.erase [3, 6, 10] 3 = [6, 10] from rfl]
          refine gives_app0W (HWK.out.1.below (below_call hbu (below_of_ch (by decide) HC_6))) (.tmp 15) (.tmp 17) rfl rfl hr_6 rfl (Nat.le_trans HN.out.1 (by decide)) ?_
          intro pA_7 cA_7 U_7 hr_7 hCh hg
          simp only [List.getElem_toArray, List.getElem_cons_succ, List.getElem_cons_zero, Act.put, List.setIfInBounds_toArray, List.set_cons_zero, List.set_cons_succ]
          rw [paint_paint HC_6.size] at hr_7
          have HC_7 := HC_6.trans hCh
          have h1_7 := hp_ch h1_6 hCh e1
          have h3_7 := hp_ch h3_6 hCh e3
          have hs_7 := hp_grown hs_6 hg (by simpa using hn_6)
          clear hCh hg
          refine Ph.wpX_any (hp_cell h1_7 14) ?_
          intro i hi hr
          obtain rfl | rfl := (by simpa using hi : i = 6 ∨ i = 10)
          · clear hi hr
            refine ⟨_, rfl, rfl, ?_⟩
            rw [show List.erase [6, 10] 6 = [10] from rfl]
            refine gives_append_col (.tmp 18) (.tmp 20) 27 rfl 49 i0 (.agg #[.string ⟨#[]⟩, .bool false, .string ⟨#[]⟩]) 3 40 Try.underlying27 HZ.out.1 HZ.out.2.1 HZ.out.2.2.1 HZ.out.2.2.2 rfl (by decide) (.slice pA_7 W.length cA_7) W.length (W.flatMap encW) rfl hr_7 ⟨G_6, 0, none⟩ 1 1 (encW (⟨⟨#[115, 112, 97, 114, 101]⟩, false, ⟨#[]⟩⟩ : Wt)) rfl rfl (fun j u hu => by have := hp_cell hs_7 j; rw [Addr.add_lit, Nat.zero_add, this]; simpa [encW] using hu) (encW_one _) (by have := HN.out.1; unfold maxLen; omega) (by have := HN.out.1; omega) ?_
            intro pB_8 cB_8 U_8 hr_8 hCh hg
            simp only [List.getElem_toArray, List.getElem_cons_succ, List.getElem_cons_zero, Act.put, List.setIfInBounds_toArray, List.set_cons_zero, List.set_cons_succ]
            rw [paint_paint HC_7.size] at hr_8
            have HC_8 := HC_7.trans hCh
            have h1_8 := hp_ch h1_7 hCh e1
            have h3_8 := hp_ch h3_7 hCh e3
            clear hCh hg
            have hL_8 : Row (paint zc u0 3) 3 U_8 49 3 (.slice pB_8 (W ++ [(⟨⟨#[115, 112, 97, 114, 101]⟩, false, ⟨#[]⟩⟩ : Wt)]).length cB_8) (W ++ [(⟨⟨#[115, 112, 97, 114, 101]⟩, false, ⟨#[]⟩⟩ : Wt)]).length ((W ++ [(⟨⟨#[115, 112, 97, 114, 101]⟩, false, ⟨#[]⟩⟩ : Wt)]).flatMap encW) := by
              have e1 : (W ++ [(⟨⟨#[115, 112, 97, 114, 101]⟩, false, ⟨#[]⟩⟩ : Wt)]).length = W.length + 1 := by simp
              have e2 : (W ++ [(⟨⟨#[115, 112, 97, 114, 101]⟩, false, ⟨#[]⟩⟩ : Wt)]).flatMap encW = W.flatMap encW ++ encW (⟨⟨#[115, 112, 97, 114, 101]⟩, false, ⟨#[]⟩⟩ : Wt) := by simp
              rw [e1, e2]; exact hr_8
            have hcap_8 : W.length + 1 ≤ cB_8 := by have := (row_lsW hL_8).cap.1; simpa using this
            obtain ⟨gB_8, oB_8, rfl, -⟩ := (row_lsW hL_8).at_ W.length (⟨⟨#[115, 112, 97, 114, 101]⟩, false, ⟨#[]⟩⟩ : Wt) (by simp)
            refine Ph.wpX_any (hp_cell h1_8 14) ?_
            intro i hi hr
            obtain rfl := (by simpa using hi : i = 10)
            clear hi hr
            rw [show List.erase [10] 10 = [] from rfl]
            have hle : W.length ≤ cB_8 := by omega
            have hli : (W.length : Int) ≤ (cB_8 : Int) := by omega
            refine X_op rfl rfl (v := .slice (some ⟨gB_8, oB_8, none⟩) W.length cB_8) (S := fun w' => U_8 = w') (by go_simp; try (first | exact rfl | exact ⟨rfl, rfl⟩)) ?_
            rintro _ rfl
            simp only [List.getElem_toArray, List.getElem_cons_succ, List.getElem_cons_zero, Act.put, List.setIfInBounds_toArray, List.set_cons_zero, List.set_cons_succ]
            clear hle hli
            refine Ph.wpX_nil (hp_cell h1_8 14) ?_
            have hc3 := hp_cell h3_8
            have hf3 := hp_free h3_8
            refine Ph.at_op rfl (by kernel_rfl) ?_
            go_wp2
            refine Ph.at_op rfl (by kernel_rfl) ?_
            go_wp2
            refine Ph.at_end (by simp) ?_
            go_wp2
            go_meet
            have hnB := hL_8.ne h3_8 (by decide)
            exact ⟨rfl, rfl, some ⟨gB_8, oB_8, none⟩, cB_8, hp_set_ne h1_8 (p := ⟨b3, 14, none⟩) hne _, hp_set h3_8 (i := 14) (.slice (some ⟨gB_8, oB_8, none⟩) W.length cB_8), hcap_8, row_lsW (hL_8.set hnB (p := ⟨b3, 14, none⟩) (.slice (some ⟨gB_8, oB_8, none⟩) W.length cB_8)), fun g o e => by injection e with e; injection e with e1 e2; subst e1; intro e3; exact hnB (by rw [← e3]; rfl), below_set (below_call hbu (below_of_ch (by decide) HC_8)) (p := ⟨b3, 14, none⟩) hle3 _⟩
          · exact absurd ((show Ph.anc _ 10 6 = true by kernel_rfl).symm.trans (hr 6 (by simp))) (by decide)
        · exact absurd ((show Ph.anc _ 6 3 = true by kernel_rfl).symm.trans (hr 3 (by simp))) (by decide)
        · exact absurd ((show Ph.anc _ 10 6 = true by kernel_rfl).symm.trans (hr 6 (by simp))) (by decide)
      · exact absurd ((show Ph.anc _ 6 3 = true by kernel_rfl).symm.trans (hr 3 (by simp))) (by decide)
      · exact absurd ((show Ph.anc _ 10 6 = true by kernel_rfl).symm.trans (hr 6 (by simp))) (by decide)
    · exact absurd ((show Ph.anc _ 3 0 = true by kernel_rfl).symm.trans (hr 0 (by simp))) (by decide)
    · clear hi hr
      rw [show List.erase [0, 3, 5, 6, 10] 5 = [0, 3, 6, 10] from rfl]
      refine X_op rfl rfl (S := fun w' => (u0.alloc (.cells #[.string ⟨#[115, 112, 97, 114, 101]⟩, .bool false, .string ⟨#[]⟩] 49)) = w') (by go_simp; first | exact rfl | exact ⟨rfl, rfl⟩) ?_
      rintro _ rfl
      simp only [List.getElem_toArray, List.getElem_cons_succ, List.getElem_cons_zero, Act.put, List.setIfInBounds_toArray, List.set_cons_zero, List.set_cons_succ]
      have hbx_10 : Below u0.heap.size u0 (u0.alloc (.cells #[.string ⟨#[115, 112, 97, 114, 101]⟩, .bool false, .string ⟨#[]⟩] 49)) := below_alloc (Below.refl _ _) _
      have hz_10 := hp_alloc_new u0 (.cells #[.string ⟨#[115, 112, 97, 114, 101]⟩, .bool false, .string ⟨#[]⟩] 49)
      have h1_10 := hp_below hbx_10 h1
      have h3_10 := hp_below hbx_10 h3
      have HC_10 := HC.below hbx_10
      have hs_10 := hz_10
      generalize hU_10 : (u0.alloc (.cells #[.string ⟨#[115, 112, 97, 114, 101]⟩, .bool false, .string ⟨#[]⟩] 49)) = U_10 at *
      generalize hG_10 : u0.heap.size = G_10 at *
      clear hU_10 hG_10
      refine Ph.wpX_any (hp_cell h1_10 14) ?_
      intro i hi hr
      obtain rfl | rfl | rfl | rfl := (by simpa using hi : i = 0 ∨ i = 3 ∨ i = 6 ∨ i = 10)
      · clear hi hr
        rw [show List.erase [0, 3, 6, 10] 0 = [3, 6, 10] from rfl]
        refine X_op rfl rfl (S := fun w' => (U_10.alloc (.cells #[] 49)) = w') (by go_simp; first | exact rfl | exact ⟨rfl, rfl⟩) ?_
        rintro _ rfl
        simp only [List.getElem_toArray, List.getElem_cons_succ, List.getElem_cons_zero, Act.put, List.setIfInBounds_toArray, List.set_cons_zero, List.set_cons_succ]
        have hbx_11 : Below U_10.heap.size U_10 (U_10.alloc (.cells #[] 49)) := below_alloc (Below.refl _ _) _
        have hz_11 := hp_alloc_new U_10 (.cells #[] 49)
        have h1_11 := hp_below hbx_11 h1_10
        have h3_11 := hp_below hbx_11 h3_10
        have HC_11 := HC_10.below hbx_11
        have hr_11 : Row (paint zc u0 3) 3 (U_10.alloc (.cells #[] 49)) 49 3 (.slice (some ⟨U_10.heap.size, 0, none⟩) 0 0) 0 [] := Row.mk' (cur := #[]) hz_11 (Nat.zero_le _) (by decide) rfl rfl rfl (paint_new HC_10.size)
        have hs_11 := hp_below hbx_11 hs_10
        have hn_11 : G_10 ≠ U_10.heap.size := by have := hp_lt hs_10; omega
        generalize hU_11 : (U_10.alloc (.cells #[] 49)) = U_11 at *
        generalize hG_11 : U_10.heap.size = G_11 at *
        clear hU_11 hG_11
        refine Ph.wpX_any (hp_cell h1_11 14) ?_
        intro i hi hr
        obtain rfl | rfl | rfl := (by simpa using hi : i = 3 ∨ i = 6 ∨ i = 10)
        · clear hi hr
          refine ⟨_, rfl, rfl, ?_⟩
          rw [show List.erase [3, 6, 10] 3 = [6, 10] from rfl]
          refine gives_app0W (HWK.out.1.below (below_call hbu (below_of_ch (by decide) HC_11))) (.tmp 15) (.tmp 17) rfl rfl hr_11 rfl (Nat.le_trans HN.out.1 (by decide)) ?_
          intro pA_12 cA_12 U_12 hr_12 hCh hg
          simp only [List.getElem_toArray, List.getElem_cons_succ, List.getElem_cons_zero, Act.put, List.setIfInBounds_toArray, List.set_cons_zero, List.set_cons_succ]
          rw [paint_paint HC_11.size] at hr_12
          have HC_12 := HC_11.trans hCh
          have h1_12 := hp_ch h1_11 hCh e1
          have h3_12 := hp_ch h3_11 hCh e3
          have hs_12 := hp_grown hs_11 hg (by simpa using hn_11)
          clear hCh hg
          refine Ph.wpX_any (hp_cell h1_12 14) ?_
          intro i hi hr
          obtain rfl | rfl := (by simpa using hi : i = 6 ∨ i = 10)
          · clear hi hr
            refine ⟨_, rfl, rfl, ?_⟩
            rw [show List.erase [6, 10] 6 = [10] from rfl]
            refine gives_append_col (.tmp 18) (.tmp 20) 27 rfl 49 i0 (.agg #[.string ⟨#[]⟩, .bool false, .string ⟨#[]⟩]) 3 40 Try.underlying27 HZ.out.1 HZ.out.2.1 HZ.out.2.2.1 HZ.out.2.2.2 rfl (by decide) (.slice pA_12 W.length cA_12) W.length (W.flatMap encW) rfl hr_12 ⟨G_10, 0, none⟩ 1 1 (encW (⟨⟨#[115, 112, 97, 114, 101]⟩, false, ⟨#[]⟩⟩ : Wt)) rfl rfl (fun j u hu => by have := hp_cell hs_12 j; rw [Addr.add_lit, Nat.zero_add, this]; simpa [encW] using hu) (encW_one _) (by have := HN.out.1; unfold maxLen; omega) (by have := HN.out.1; omega) ?_
            intro pB_13 cB_13 U_13 hr_13 hCh hg
            simp only [List.getElem_toArray, List.getElem_cons_succ, List.getElem_cons_zero, Act.put, List.setIfInBounds_toArray, List.set_cons_zero, List.set_cons_succ]
            rw [paint_paint HC_12.size] at hr_13
            have HC_13 := HC_12.trans hCh
            have h1_13 := hp_ch h1_12 hCh e1
            have h3_13 := hp_ch h3_12 hCh e3
            clear hCh hg
            have hL_13 : Row (paint zc u0 3) 3 U_13 49 3 (.slice pB_13 (W ++ [(⟨⟨#[115, 112, 97, 114, 101]⟩, false, ⟨#[]⟩⟩ : Wt)]).length cB_13) (W ++ [(⟨⟨#[115, 112, 97, 114, 101]⟩, false, ⟨#[]⟩⟩ : Wt)]).length ((W ++ [(⟨⟨#[115, 112, 97, 114, 101]⟩, false, ⟨#[]⟩⟩ : Wt)]).flatMap encW) := by
              have e1 : (W ++ [(⟨⟨#[115, 112, 97, 114, 101]⟩, false, ⟨#[]⟩⟩ : Wt)]).length = W.length + 1 := by simp
              have e2 : (W ++ [(⟨⟨#[115, 112, 97, 114, 101]⟩, false, ⟨#[]⟩⟩ : Wt)]).flatMap encW = W.flatMap encW ++ encW (⟨⟨#[115, 112, 97, 114, 101]⟩, false, ⟨#[]⟩⟩ : Wt) := by simp
              rw [e1, e2]; exact hr_13
            have hcap_13 : W.length + 1 ≤ cB_13 := by have := (row_lsW hL_13).cap.1; simpa using this
            obtain ⟨gB_13, oB_13, rfl, -⟩ := (row_lsW hL_13).at_ W.length (⟨⟨#[115, 112, 97, 114, 101]⟩, false, ⟨#[]⟩⟩ : Wt) (by simp)
            refine Ph.wpX_any (hp_cell h1_13 14) ?_
            intro i hi hr
            obtain rfl := (by simpa using hi : i = 10)
            clear hi hr
            rw [show List.erase [10] 10 = [] from rfl]
            have hle : W.length ≤ cB_13 := by omega
            have hli : (W.length : Int) ≤ (cB_13 : Int) := by omega
            refine X_op rfl rfl (v := .slice (some ⟨gB_13, oB_13, none⟩) W.length cB_13) (S := fun w' => U_13 = w') (by go_simp; try (first | exact rfl | exact ⟨rfl, rfl⟩)) ?_
            rintro _ rfl
            simp only [List.getElem_toArray, List.getElem_cons_succ, List.getElem_cons_zero, Act.put, List.setIfInBounds_toArray, List.set_cons_zero, List.set_cons_succ]
            clear hle hli
            refine Ph.wpX_nil (hp_cell h1_13 14) ?_
            have hc3 := hp_cell h3_13
            have hf3 := hp_free h3_13
            refine Ph.at_op rfl (by kernel_rfl) ?_
            go_wp2
            refine Ph.at_op rfl (by kernel_rfl) ?_
            go_wp2
            refine Ph.at_end (by simp) ?_
            go_wp2
            go_meet
            have hnB := hL_13.ne h3_13 (by decide)
            exact ⟨rfl, rfl, some ⟨gB_13, oB_13, none⟩, cB_13, hp_set_ne h1_13 (p := ⟨b3, 14, none⟩) hne _, hp_set h3_13 (i := 14) (.slice (some ⟨gB_13, oB_13, none⟩) W.length cB_13), hcap_13, row_lsW (hL_13.set hnB (p := ⟨b3, 14, none⟩) (.slice (some ⟨gB_13, oB_13, none⟩) W.length cB_13)), fun g o e => by injection e with e; injection e with e1 e2; subst e1; intro e3; exact hnB (by rw [← e3]; rfl), below_set (below_call hbu (below_of_ch (by decide) HC_13)) (p := ⟨b3, 14, none⟩) hle3 _⟩
          · exact absurd ((show Ph.anc _ 10 6 = true by kernel_rfl).symm.trans (hr 6 (by simp))) (by decide)
        · exact absurd ((show Ph.anc _ 6 3 = true by kernel_rfl).symm.trans (hr 3 (by simp))) (by decide)
        · exact absurd ((show Ph.anc _ 10 6 = true by kernel_rfl).symm.trans (hr 6 (by simp))) (by decide)
      · exact absurd ((show Ph.anc _ 3 0 = true by kernel_rfl).symm.trans (hr 0 (by simp))) (by decide)
      · exact absurd ((show Ph.anc _ 6 3 = true by kernel_rfl).symm.trans (hr 3 (by simp))) (by decide)
      · exact absurd ((show Ph.anc _ 10 6 = true by kernel_rfl).symm.trans (hr 6 (by simp))) (by decide)
    · exact absurd ((show Ph.anc _ 6 3 = true by kernel_rfl).symm.trans (hr 3 (by simp))) (by decide)
    · exact absurd ((show Ph.anc _ 10 6 = true by kernel_rfl).symm.trans (hr 6 (by simp))) (by decide)
  case rest =>
  obtain ⟨rfl, rfl, p1, c1, k1, k3, hcp, hlw, hpn, hb4⟩ := hcut
  rename World => w4
  iterate 2 go_step
  go_cut [1, 3] (fun s1 s3 V => s1 = .pointer (some ⟨w.heap.size, 0, none⟩) ∧ s3 = .pointer (some ⟨b3, 0, none⟩) ∧ Cut2 w kind node inc ses tx seq lo hi err n key data has hit W K wp kp wq kq b3 V)
  case first =>
    refine Ph.region_at (by kernel_rfl) ?_
    obtain ⟨i0, hi0, hz0, hz1, hz2⟩ := info_parts Try.info9
    have HZ := Lib.hid (And.intro hi0 (And.intro hz0 (And.intro hz1 hz2)))
    clear hi0 hz0 hz1 hz2
    have h1 := hp_below (below_drew (Below.refl w4.heap.size w4)) k1
    have h3 := hp_below (below_drew (Below.refl w4.heap.size w4)) k3
    have HP1 := Lib.hid (And.intro hcp (And.intro (hlw.below (below_drew (Below.refl _ _))) hpn))
    have hbu := below_drew hb4
    have e1 : paint zc w4.drew 3 w.heap.size ≠ 3 := by rw [paint_old (hp_lt h1)]; simp [zc]
    have e3 : paint zc w4.drew 3 b3 ≠ 3 := by rw [paint_old (hp_lt h3)]; simp [zc]
    have HC : Ch zc 3 w4.drew w4.drew := Ch.refl
    clear k1 k3 hb4 hcp hlw hpn
    generalize w4.drew = u0 at *
    refine Ph.at_freeX 10 (fun i => i == 1 || i == 2 || i == 6 || i == 7 || i == 8) (fun w' => w'.cell? ⟨w.heap.size, 15, none⟩ = some (.slice kp K.length kq)) [0, 3, 4, 5, 9] (by kernel_rfl) (by rfl) ?_
    rw [show Ph.frees (fun i => i == 1 || i == 2 || i == 6 || i == 7 || i == 8) 0 10 = [1, 2, 6, 7, 8] from rfl]
    apply Ph.wpFx_op rfl; (focus (intro w1 hT; go_simp; exact rfl)); simp only [List.getElem_toArray, List.getElem_cons_succ, List.getElem_cons_zero, Act.put, List.setIfInBounds_toArray, List.set_cons_zero, List.set_cons_succ]
    apply Ph.wpFx_op rfl; (focus (intro w1 hT; go_simp; exact rfl)); simp only [List.getElem_toArray, List.getElem_cons_succ, List.getElem_cons_zero, Act.put, List.setIfInBounds_toArray, List.set_cons_zero, List.set_cons_succ]
    apply Ph.wpFx_op rfl; (focus (intro w1 hT; go_simp; exact rfl)); simp only [List.getElem_toArray, List.getElem_cons_succ, List.getElem_cons_zero, Act.put, List.setIfInBounds_toArray, List.set_cons_zero, List.set_cons_succ]
    apply Ph.wpFx_op rfl; (focus (intro w1 hT; go_simp; exact rfl)); simp only [List.getElem_toArray, List.getElem_cons_succ, List.getElem_cons_zero, Act.put, List.setIfInBounds_toArray, List.set_cons_zero, List.set_cons_succ]
    apply Ph.wpFx_op rfl; (focus (intro w1 hT; go_simp; exact rfl)); simp only [List.getElem_toArray, List.getElem_cons_succ, List.getElem_cons_zero, Act.put, List.setIfInBounds_toArray, List.set_cons_zero, List.set_cons_succ]
    refine Ph.wpFx_nil ?_
    rw [show List.length [0, 3, 4, 5, 9] = 5 from rfl]
    refine Ph.wpX_any (hp_cell h1 15) ?_
    intro i hi hr
    obtain rfl | rfl | rfl | rfl | rfl := (by simpa using hi : i = 0 ∨ i = 3 ∨ i = 4 ∨ i = 5 ∨ i = 9)
    · clear hi hr
      rw [show List.erase [0, 3, 4, 5, 9] 0 = [3, 4, 5, 9] from rfl]
      refine X_op rfl rfl (S := fun w' => (u0.alloc (.cells #[] 9)) = w') (by go_simp; first | exact rfl | exact ⟨rfl, rfl⟩) ?_
      rintro _ rfl
      simp only [List.getElem_toArray, List.getElem_cons_succ, List.getElem_cons_zero, Act.put, List.setIfInBounds_toArray, List.set_cons_zero, List.set_cons_succ]
      have hbx_1 : Below u0.heap.size u0 (u0.alloc (.cells #[] 9)) := below_alloc (Below.refl _ _) _
      have hz_1 := hp_alloc_new u0 (.cells #[] 9)
      have h1_1 := hp_below hbx_1 h1
      have h3_1 := hp_below hbx_1 h3
      have HC_1 := HC.below hbx_1
      have hr_1 : Row (paint zc u0 3) 3 (u0.alloc (.cells #[] 9)) 9 1 (.slice (some ⟨u0.heap.size, 0, none⟩) 0 0) 0 [] := Row.mk' (cur := #[]) hz_1 (Nat.zero_le _) (by decide) rfl rfl rfl (paint_new HC.size)
      generalize hU_1 : (u0.alloc (.cells #[] 9)) = U_1 at *
      generalize hG_1 : u0.heap.size = G_1 at *
      clear hU_1 hG_1
      refine Ph.wpX_any (hp_cell h1_1 15) ?_
      intro i hi hr
      obtain rfl | rfl | rfl | rfl := (by simpa using hi : i = 3 ∨ i = 4 ∨ i = 5 ∨ i = 9)
      · clear hi hr
        refine ⟨_, rfl, rfl, ?_⟩
        rw [show List.erase [3, 4, 5, 9] 3 = [4, 5, 9] from rfl]
        refine gives_app0K (HWK.out.2.below (below_call hbu (below_of_ch (by decide) HC_1))) (.tmp 27) (.tmp 29) rfl rfl hr_1 rfl (Nat.le_trans HN.out.2 (by decide)) ?_
        intro pA_2 cA_2 U_2 hr_2 hCh hg
        simp only [List.getElem_toArray, List.getElem_cons_succ, List.getElem_cons_zero, Act.put, List.setIfInBounds_toArray, List.set_cons_zero, List.set_cons_succ]
        rw [paint_paint HC_1.size] at hr_2
        have HC_2 := HC_1.trans hCh
        have h1_2 := hp_ch h1_1 hCh e1
        have h3_2 := hp_ch h3_1 hCh e3
        clear hCh hg
        refine Ph.wpX_any (hp_cell h1_2 15) ?_
        intro i hi hr
        obtain rfl | rfl | rfl := (by simpa using hi : i = 4 ∨ i = 5 ∨ i = 9)
        · clear hi hr
          rw [show List.erase [4, 5, 9] 4 = [5, 9] from rfl]
          refine X_op rfl rfl (S := fun w' => (U_2.alloc (.cells #[.string ⟨#[115, 112, 97, 114, 101]⟩] 9)) = w') (by go_simp; first | exact rfl | exact ⟨rfl, rfl⟩) ?_
          rintro _ rfl
          simp only [List.getElem_toArray, List.getElem_cons_succ, List.getElem_cons_zero, Act.put, List.setIfInBounds_toArray, List.set_cons_zero, List.set_cons_succ]
          have hbx_3 : Below U_2.heap.size U_2 (U_2.alloc (.cells #[.string ⟨#[115, 112, 97, 114, 101]⟩] 9)) := below_alloc (Below.refl _ _) _
          have hz_3 := hp_alloc_new U_2 (.cells #[.string ⟨#[115, 112, 97, 114, 101]⟩] 9)
          have h1_3 := hp_below hbx_3 h1_2
          have h3_3 := hp_below hbx_3 h3_2
          have HC_3 := HC_2.below hbx_3
          have hs_3 := hz_3
          have hr_3 := hr_2.kept (Mv.of_below (S := []) (col := paint zc u0 3) hbx_3) (by simp)
          generalize hU_3 : (U_2.alloc (.cells #[.string ⟨#[115, 112, 97, 114, 101]⟩] 9)) = U_3 at *
          generalize hG_3 : U_2.heap.size = G_3 at *
          clear hU_3 hG_3
          refine Ph.wpX_any (hp_cell h1_3 15) ?_
          intro i hi hr
          obtain rfl | rfl := (by simpa using hi : i = 5 ∨ i = 9)
          · clear hi hr
            refine ⟨_, rfl, rfl, ?_⟩
            rw [show List.erase [5, 9] 5 = [9] from rfl]
            refine gives_append_col (.tmp 30) (.tmp 31) 28 rfl 9 i0 (.string ⟨#[]⟩) 1 16 Try.underlying28 HZ.out.1 HZ.out.2.1 HZ.out.2.2.1 HZ.out.2.2.2 rfl (by decide) (.slice pA_2 K.length cA_2) K.length (K.flatMap encS) rfl hr_3 ⟨G_3, 0, none⟩ 1 1 (encS (⟨#[115, 112, 97, 114, 101]⟩ : ByteArray)) rfl rfl (fun j u hu => by have := hp_cell hs_3 j; rw [Addr.add_lit, Nat.zero_add, this]; simpa [encS] using hu) (encS_one _) (by have := HN.out.2; unfold maxLen; omega) (by have := HN.out.2; omega) ?_
            intro pB_4 cB_4 U_4 hr_4 hCh hg
            simp only [List.getElem_toArray, List.getElem_cons_succ, List.getElem_cons_zero, Act.put, List.setIfInBounds_toArray, List.set_cons_zero, List.set_cons_succ]
            rw [paint_paint HC_3.size] at hr_4
            have HC_4 := HC_3.trans hCh
            have h1_4 := hp_ch h1_3 hCh e1
            have h3_4 := hp_ch h3_3 hCh e3
            clear hCh hg
            have hL_4 : Row (paint zc u0 3) 3 U_4 9 1 (.slice pB_4 (K ++ [(⟨#[115, 112, 97, 114, 101]⟩ : ByteArray)]).length cB_4) (K ++ [(⟨#[115, 112, 97, 114, 101]⟩ : ByteArray)]).length ((K ++ [(⟨#[115, 112, 97, 114, 101]⟩ : ByteArray)]).flatMap encS) := by
              have e1 : (K ++ [(⟨#[115, 112, 97, 114, 101]⟩ : ByteArray)]).length = K.length + 1 := by simp
              have e2 : (K ++ [(⟨#[115, 112, 97, 114, 101]⟩ : ByteArray)]).flatMap encS = K.flatMap encS ++ encS (⟨#[115, 112, 97, 114, 101]⟩ : ByteArray) := by simp
              rw [e1, e2]; exact hr_4
            have hcap_4 : K.length + 1 ≤ cB_4 := by have := (row_lsS hL_4).cap.1; simpa using this
            obtain ⟨gB_4, oB_4, rfl, -⟩ := (row_lsS hL_4).at_ K.length (⟨#[115, 112, 97, 114, 101]⟩ : ByteArray) (by simp)
            refine Ph.wpX_any (hp_cell h1_4 15) ?_
            intro i hi hr
            obtain rfl := (by simpa using hi : i = 9)
            clear hi hr
            rw [show List.erase [9] 9 = [] from rfl]
            have hle : K.length ≤ cB_4 := by omega
            have hli : (K.length : Int) ≤ (cB_4 : Int) := by omega
            refine X_op rfl rfl (v := .slice (some ⟨gB_4, oB_4, none⟩) K.length cB_4) (S := fun w' => U_4 = w') (by go_simp; try (first | exact rfl | exact ⟨rfl, rfl⟩)) ?_
            rintro _ rfl
            simp only [List.getElem_toArray, List.getElem_cons_succ, List.getElem_cons_zero, Act.put, List.setIfInBounds_toArray, List.set_cons_zero, List.set_cons_succ]
            clear hle hli
            refine Ph.wpX_nil (hp_cell h1_4 15) ?_
            have hc3 := hp_cell h3_4
            have hf3 := hp_free h3_4
            refine Ph.at_op rfl (by kernel_rfl) ?_
            go_wp2
            refine Ph.at_op rfl (by kernel_rfl) ?_
            go_wp2
            refine Ph.at_end (by simp) ?_
            go_wp2
            go_meet
            have hnB := hL_4.ne h3_4 (by decide)
            exact ⟨rfl, rfl, p1, c1, some ⟨gB_4, oB_4, none⟩, cB_4, hp_set_ne h1_4 (p := ⟨b3, 15, none⟩) hne _, hp_set h3_4 (i := 15) (.slice (some ⟨gB_4, oB_4, none⟩) K.length cB_4), HP1.out.1, (HP1.out.2.1.below (below_of_ch (by decide) HC_4)).set (q := ⟨b3, 15, none⟩) HP1.out.2.2 (.slice (some ⟨gB_4, oB_4, none⟩) K.length cB_4), hcap_4, row_lsS (hL_4.set hnB (p := ⟨b3, 15, none⟩) (.slice (some ⟨gB_4, oB_4, none⟩) K.length cB_4)), below_set (below_call hbu (below_of_ch (by decide) HC_4)) (p := ⟨b3, 15, none⟩) hle3 _⟩
          · exact absurd ((show Ph.anc _ 9 5 = true by kernel_rfl).symm.trans (hr 5 (by simp))) (by decide)
        · exact absurd ((show Ph.anc _ 5 4 = true by kernel_rfl).symm.trans (hr 4 (by simp))) (by decide)
        · exact absurd ((show Ph.anc _ 9 5 = true by kernel_rfl).symm.trans (hr 5 (by simp))) (by decide)
      · clear hi hr
        rw [show List.erase [3, 4, 5, 9] 4 = [3, 5, 9] from rfl]
        refine X_op rfl rfl (S := fun w' => (U_1.alloc (.cells #[.string ⟨#[115, 112, 97, 114, 101]⟩] 9)) = w') (by go_simp; first | exact rfl | exact ⟨rfl, rfl⟩) ?_
        rintro _ rfl
        simp only [List.getElem_toArray, List.getElem_cons_succ, List.getElem_cons_zero, Act.put, List.setIfInBounds_toArray, List.set_cons_zero, List.set_cons_succ]
        have hbx_6 : Below U_1.heap.size U_1 (U_1.alloc (.cells #[.string ⟨#[115, 112, 97, 114, 101]⟩] 9)) := below_alloc (Below.refl _ _) _
        have hz_6 := hp_alloc_new U_1 (.cells #[.string ⟨#[115, 112, 97, 114, 101]⟩] 9)
        have h1_6 := hp_below hbx_6 h1_1
        have h3_6 := hp_below hbx_6 h3_1
        have HC_6 := HC_1.below hbx_6
        have hs_6 := hz_6
        have hr_6 := hr_1.kept (Mv.of_below (S := []) (col := paint zc u0 3) hbx_6) (by simp)
        have hn_6 : U_1.heap.size ≠ G_1 := by have := hr_1.lt (g := G_1) rfl; omega
        generalize hU_6 : (U_1.alloc (.cells #[.string ⟨#[115, 112, 97, 114, 101]⟩] 9)) = U_6 at *
        generalize hG_6 : U_1.heap.size = G_6 at *
        clear hU_6 hG_6
        refine Ph.wpX_any (hp_cell h1_6 15) ?_
        intro i hi hr
        obtain rfl | rfl | rfl := (by simpa using hi : i = 3 ∨ i = 5 ∨ i = 9)
        · clear hi hr
          refine ⟨_, rfl, rfl, ?_⟩
          rw [show List.erase [3, 5, 9] 3 = [5, 9] from rfl]
          refine gives_app0K (HWK.out.2.below (below_call hbu (below_of_ch (by decide) HC_6))) (.tmp 27) (.tmp 29) rfl rfl hr_6 rfl (Nat.le_trans HN.out.2 (by decide)) ?_
          intro pA_7 cA_7 U_7 hr_7 hCh hg
          simp only [List.getElem_toArray, List.getElem_cons_succ, List.getElem_cons_zero, Act.put, List.setIfInBounds_toArray, List.set_cons_zero, List.set_cons_succ]
          rw [paint_paint HC_6.size] at hr_7
          have HC_7 := HC_6.trans hCh
          have h1_7 := hp_ch h1_6 hCh e1
          have h3_7 := hp_ch h3_6 hCh e3
          have hs_7 := hp_grown hs_6 hg (by simpa using hn_6)
          clear hCh hg
          refine Ph.wpX_any (hp_cell h1_7 15) ?_
          intro i hi hr
          obtain rfl | rfl := (by simpa using hi : i = 5 ∨ i = 9)
          · clear hi hr
            refine ⟨_, rfl, rfl, ?_⟩
            rw [show List.erase [5, 9] 5 = [9] from rfl]
            refine gives_append_col (.tmp 30) (.tmp 31) 28 rfl 9 i0 (.string ⟨#[]⟩) 1 16 Try.underlying28 HZ.out.1 HZ.out.2.1 HZ.out.2.2.1 HZ.out.2.2.2 rfl (by decide) (.slice pA_7 K.length cA_7) K.length (K.flatMap encS) rfl hr_7 ⟨G_6, 0, none⟩ 1 1 (encS (⟨#[115, 112, 97, 114, 101]⟩ : ByteArray)) rfl rfl (fun j u hu => by have := hp_cell hs_7 j; rw [Addr.add_lit, Nat.zero_add, this]; simpa [encS] using hu) (encS_one _) (by have := HN.out.2; unfold maxLen; omega) (by have := HN.out.2; omega) ?_
            intro pB_8 cB_8 U_8 hr_8 hCh hg
            simp only [List.getElem_toArray, List.getElem_cons_succ, List.getElem_cons_zero, Act.put, List.setIfInBounds_toArray, List.set_cons_zero, List.set_cons_succ]
            rw [paint_paint HC_7.size] at hr_8
            have HC_8 := HC_7.trans hCh
            have h1_8 := hp_ch h1_7 hCh e1
            have h3_8 := hp_ch h3_7 hCh e3
            clear hCh hg
            have hL_8 : Row (paint zc u0 3) 3 U_8 9 1 (.slice pB_8 (K ++ [(⟨#[115, 112, 97, 114, 101]⟩ : ByteArray)]).length cB_8) (K ++ [(⟨#[115, 112, 97, 114, 101]⟩ : ByteArray)]).length ((K ++ [(⟨#[115, 112, 97, 114, 101]⟩ : ByteArray)]).flatMap encS) := by
              have e1 : (K ++ [(⟨#[115, 112, 97, 114, 101]⟩ : ByteArray)]).length = K.length + 1 := by simp
              have e2 : (K ++ [(⟨#[115, 112, 97, 114, 101]⟩ : ByteArray)]).flatMap encS = K.flatMap encS ++ encS (⟨#[115, 112, 97, 114, 101]⟩ : ByteArray) := by simp
              rw [e1, e2]; exact hr_8
            have hcap_8 : K.length + 1 ≤ cB_8 := by have := (row_lsS hL_8).cap.1; simpa using this
            obtain ⟨gB_8, oB_8, rfl, -⟩ := (row_lsS hL_8).at_ K.length (⟨#[115, 112, 97, 114, 101]⟩ : ByteArray) (by simp)
            refine Ph.wpX_any (hp_cell h1_8 15) ?_
            intro i hi hr
            obtain rfl := (by simpa using hi : i = 9)
            clear hi hr
            rw [show List.erase [9] 9 = [] from rfl]
            have hle : K.length ≤ cB_8 := by omega
            have hli : (K.length : Int) ≤ (cB_8 : Int) := by omega
            refine X_op rfl rfl (v := .slice (some ⟨gB_8, oB_8, none⟩) K.length cB_8) (S := fun w' => U_8 = w') (by go_simp; try (first | exact rfl | exact ⟨rfl, rfl⟩)) ?_
            rintro _ rfl
            simp only [List.getElem_toArray, List.getElem_cons_succ, List.getElem_cons_zero, Act.put, List.setIfInBounds_toArray, List.set_cons_zero, List.set_cons_succ]
            clear hle hli
            refine Ph.wpX_nil (hp_cell h1_8 15) ?_
            have hc3 := hp_cell h3_8
            have hf3 := hp_free h3_8
            refine Ph.at_op rfl (by kernel_rfl) ?_
            go_wp2
            refine Ph.at_op rfl (by kernel_rfl) ?_
            go_wp2
            refine Ph.at_end (by simp) ?_
            go_wp2
            go_meet
            have hnB := hL_8.ne h3_8 (by decide)
            exact ⟨rfl, rfl, p1, c1, some ⟨gB_8, oB_8, none⟩, cB_8, hp_set_ne h1_8 (p := ⟨b3, 15, none⟩) hne _, hp_set h3_8 (i := 15) (.slice (some ⟨gB_8, oB_8, none⟩) K.length cB_8), HP1.out.1, (HP1.out.2.1.below (below_of_ch (by decide) HC_8)).set (q := ⟨b3, 15, none⟩) HP1.out.2.2 (.slice (some ⟨gB_8, oB_8, none⟩) K.length cB_8), hcap_8, row_lsS (hL_8.set hnB (p := ⟨b3, 15, none⟩) (.slice (some ⟨gB_8, oB_8, none⟩) K.length cB_8)), below_set (below_call hbu (below_of_ch (by decide) HC_8)) (p := ⟨b3, 15, none⟩) hle3 _⟩
          · exact absurd ((show Ph.anc _ 9 5 = true by kernel_rfl).symm.trans (hr 5 (by simp))) (by decide)
        · exact absurd ((show Ph.anc _ 5 3 = true by kernel_rfl).symm.trans (hr 3 (by simp))) (by decide)
        · exact absurd ((show Ph.anc _ 9 5 = true by kernel_rfl).symm.trans (hr 5 (by simp))) (by decide)
      · exact absurd ((show Ph.anc _ 5 3 = true by kernel_rfl).symm.trans (hr 3 (by simp))) (by decide)
      · exact absurd ((show Ph.anc _ 9 5 = true by kernel_rfl).symm.trans (hr 5 (by simp))) (by decide)
    · exact absurd ((show Ph.anc _ 3 0 = true by kernel_rfl).symm.trans (hr 0 (by simp))) (by decide)
    · clear hi hr
      rw [show List.erase [0, 3, 4, 5, 9] 4 = [0, 3, 5, 9] from rfl]
      refine X_op rfl rfl (S := fun w' => (u0.alloc (.cells #[.string ⟨#[115, 112, 97, 114, 101]⟩] 9)) = w') (by go_simp; first | exact rfl | exact ⟨rfl, rfl⟩) ?_
      rintro _ rfl
      simp only [List.getElem_toArray, List.getElem_cons_succ, List.getElem_cons_zero, Act.put, List.setIfInBounds_toArray, List.set_cons_zero, List.set_cons_succ]
      have hbx_10 : Below u0.heap.size u0 (u0.alloc (.cells #[.string ⟨#[115, 112, 97, 114, 101]⟩] 9)) := below_alloc (Below.refl _ _) _
      have hz_10 := hp_alloc_new u0 (.cells #[.string ⟨#[115, 112, 97, 114, 101]⟩] 9)
      have h1_10 := hp_below hbx_10 h1
      have h3_10 := hp_below hbx_10 h3
      have HC_10 := HC.below hbx_10
      have hs_10 := hz_10
      generalize hU_10 : (u0.alloc (.cells #[.string ⟨#[115, 112, 97, 114, 101]⟩] 9)) = U_10 at *
      generalize hG_10 : u0.heap.size = G_10 at *
      clear hU_10 hG_10
      refine Ph.wpX_any (hp_cell h1_10 15) ?_
      intro i hi hr
      obtain rfl | rfl | rfl | rfl := (by simpa using hi : i = 0 ∨ i = 3 ∨ i = 5 ∨ i = 9)
      · clear hi hr
        rw [show List.erase [0, 3, 5, 9] 0 = [3, 5, 9] from rfl]
        refine X_op rfl rfl (S := fun w' => (U_10.alloc (.cells #[] 9)) = w') (by go_simp; first | exact rfl | exact ⟨rfl, rfl⟩) ?_
        rintro _ rfl
        simp only [List.getElem_toArray, List.getElem_cons_succ, List.getElem_cons_zero, Act.put, List.setIfInBounds_toArray, List.set_cons_zero, List.set_cons_succ]
        have hbx_11 : Below U_10.heap.size U_10 (U_10.alloc (.cells #[] 9)) := below_alloc (Below.refl _ _) _
        have hz_11 := hp_alloc_new U_10 (.cells #[] 9)
        have h1_11 := hp_below hbx_11 h1_10
        have h3_11 := hp_below hbx_11 h3_10
        have HC_11 := HC_10.below hbx_11
        have hr_11 : Row (paint zc u0 3) 3 (U_10.alloc (.cells #[] 9)) 9 1 (.slice (some ⟨U_10.heap.size, 0, none⟩) 0 0) 0 [] := Row.mk' (cur := #[]) hz_11 (Nat.zero_le _) (by decide) rfl rfl rfl (paint_new HC_10.size)
        have hs_11 := hp_below hbx_11 hs_10
        have hn_11 : G_10 ≠ U_10.heap.size := by have := hp_lt hs_10; omega
        generalize hU_11 : (U_10.alloc (.cells #[] 9)) = U_11 at *
        generalize hG_11 : U_10.heap.size = G_11 at *
        clear hU_11 hG_11
        refine Ph.wpX_any (hp_cell h1_11 15) ?_
        intro i hi hr
        obtain rfl | rfl | rfl := (by simpa using hi : i = 3 ∨ i = 5 ∨ i = 9)
        · clear hi hr
          refine ⟨_, rfl, rfl, ?_⟩
          rw [show List.erase [3, 5, 9] 3 = [5, 9] from rfl]
          refine gives_app0K (HWK.out.2.below (below_call hbu (below_of_ch (by decide) HC_11))) (.tmp 27) (.tmp 29) rfl rfl hr_11 rfl (Nat.le_trans HN.out.2 (by decide)) ?_
          intro pA_12 cA_12 U_12 hr_12 hCh hg
          simp only [List.getElem_toArray, List.getElem_cons_succ, List.getElem_cons_zero, Act.put, List.setIfInBounds_toArray, List.set_cons_zero, List.set_cons_succ]
          rw [paint_paint HC_11.size] at hr_12
          have HC_12 := HC_11.trans hCh
          have h1_12 := hp_ch h1_11 hCh e1
          have h3_12 := hp_ch h3_11 hCh e3
          have hs_12 := hp_grown hs_11 hg (by simpa using hn_11)
          clear hCh hg
          refine Ph.wpX_any (hp_cell h1_12 15) ?_
          intro i hi hr
          obtain rfl | rfl := (by simpa using hi : i = 5 ∨ i = 9)
          · clear hi hr
            refine ⟨_, rfl, rfl, ?_⟩
            rw [show List.erase [5, 9] 5 = [9] from rfl]
            refine gives_append_col (.tmp 30) (.tmp 31) 28 rfl 9 i0 (.string ⟨#[]⟩) 1 16 Try.underlying28 HZ.out.1 HZ.out.2.1 HZ.out.2.2.1 HZ.out.2.2.2 rfl (by decide) (.slice pA_12 K.length cA_12) K.length (K.flatMap encS) rfl hr_12 ⟨G_10, 0, none⟩ 1 1 (encS (⟨#[115, 112, 97, 114, 101]⟩ : ByteArray)) rfl rfl (fun j u hu => by have := hp_cell hs_12 j; rw [Addr.add_lit, Nat.zero_add, this]; simpa [encS] using hu) (encS_one _) (by have := HN.out.2; unfold maxLen; omega) (by have := HN.out.2; omega) ?_
            intro pB_13 cB_13 U_13 hr_13 hCh hg
            simp only [List.getElem_toArray, List.getElem_cons_succ, List.getElem_cons_zero, Act.put, List.setIfInBounds_toArray, List.set_cons_zero, List.set_cons_succ]
            rw [paint_paint HC_12.size] at hr_13
            have HC_13 := HC_12.trans hCh
            have h1_13 := hp_ch h1_12 hCh e1
            have h3_13 := hp_ch h3_12 hCh e3
            clear hCh hg
            have hL_13 : Row (paint zc u0 3) 3 U_13 9 1 (.slice pB_13 (K ++ [(⟨#[115, 112, 97, 114, 101]⟩ : ByteArray)]).length cB_13) (K ++ [(⟨#[115, 112, 97, 114, 101]⟩ : ByteArray)]).length ((K ++ [(⟨#[115, 112, 97, 114, 101]⟩ : ByteArray)]).flatMap encS) := by
              have e1 : (K ++ [(⟨#[115, 112, 97, 114, 101]⟩ : ByteArray)]).length = K.length + 1 := by simp
              have e2 : (K ++ [(⟨#[115, 112, 97, 114, 101]⟩ : ByteArray)]).flatMap encS = K.flatMap encS ++ encS (⟨#[115, 112, 97, 114, 101]⟩ : ByteArray) := by simp
              rw [e1, e2]; exact hr_13
            have hcap_13 : K.length + 1 ≤ cB_13 := by have := (row_lsS hL_13).cap.1; simpa using this
            obtain ⟨gB_13, oB_13, rfl, -⟩ := (row_lsS hL_13).at_ K.length (⟨#[115, 112, 97, 114, 101]⟩ : ByteArray) (by simp)
            refine Ph.wpX_any (hp_cell h1_13 15) ?_
            intro i hi hr
            obtain rfl := (by simpa using hi : i = 9)
            clear hi hr
            rw [show List.erase [9] 9 = [] from rfl]
            have hle : K.length ≤ cB_13 := by omega
            have hli : (K.length : Int) ≤ (cB_13 : Int) := by omega
            refine X_op rfl rfl (v := .slice (some ⟨gB_13, oB_13, none⟩) K.length cB_13) (S := fun w' => U_13 = w') (by go_simp; try (first | exact rfl | exact ⟨rfl, rfl⟩)) ?_
            rintro _ rfl
            simp only [List.getElem_toArray, List.getElem_cons_succ, List.getElem_cons_zero, Act.put, List.setIfInBounds_toArray, List.set_cons_zero, List.set_cons_succ]
            clear hle hli
            refine Ph.wpX_nil (hp_cell h1_13 15) ?_
            have hc3 := hp_cell h3_13
            have hf3 := hp_free h3_13
            refine Ph.at_op rfl (by kernel_rfl) ?_
            go_wp2
            refine Ph.at_op rfl (by kernel_rfl) ?_
            go_wp2
            refine Ph.at_end (by simp) ?_
            go_wp2
            go_meet
            have hnB := hL_13.ne h3_13 (by decide)
            exact ⟨rfl, rfl, p1, c1, some ⟨gB_13, oB_13, none⟩, cB_13, hp_set_ne h1_13 (p := ⟨b3, 15, none⟩) hne _, hp_set h3_13 (i := 15) (.slice (some ⟨gB_13, oB_13, none⟩) K.length cB_13), HP1.out.1, (HP1.out.2.1.below (below_of_ch (by decide) HC_13)).set (q := ⟨b3, 15, none⟩) HP1.out.2.2 (.slice (some ⟨gB_13, oB_13, none⟩) K.length cB_13), hcap_13, row_lsS (hL_13.set hnB (p := ⟨b3, 15, none⟩) (.slice (some ⟨gB_13, oB_13, none⟩) K.length cB_13)), below_set (below_call hbu (below_of_ch (by decide) HC_13)) (p := ⟨b3, 15, none⟩) hle3 _⟩
          · exact absurd ((show Ph.anc _ 9 5 = true by kernel_rfl).symm.trans (hr 5 (by simp))) (by decide)
        · exact absurd ((show Ph.anc _ 5 3 = true by kernel_rfl).symm.trans (hr 3 (by simp))) (by decide)
        · exact absurd ((show Ph.anc _ 9 5 = true by kernel_rfl).symm.trans (hr 5 (by simp))) (by decide)
      · exact absurd ((show Ph.anc _ 3 0 = true by kernel_rfl).symm.trans (hr 0 (by simp))) (by decide)
      · exact absurd ((show Ph.anc _ 5 3 = true by kernel_rfl).symm.trans (hr 3 (by simp))) (by decide)
      · exact absurd ((show Ph.anc _ 9 5 = true by kernel_rfl).symm.trans (hr 5 (by simp))) (by decide)
    · exact absurd ((show Ph.anc _ 5 3 = true by kernel_rfl).symm.trans (hr 3 (by simp))) (by decide)
    · exact absurd ((show Ph.anc _ 9 5 = true by kernel_rfl).symm.trans (hr 5 (by simp))) (by decide)
  case rest =>
  obtain ⟨rfl, rfl, p1, c1, p2, c2, k1, k3, hcp1, hlw, hcp2, hlk, hb5⟩ := hcut
  rename World => w5
  have HLW := Lib.hid hlw
  have HLK := Lib.hid hlk
  have HCP := Lib.hid (And.intro hcp1 hcp2)
  clear hlw hlk hcp1 hcp2
  obtain ⟨S, E, hS6, hEN, hSE⟩ : ∃ (S : ByteArray) (E : Int), S.size ≤ 6000 ∧ (∀ W', LsW W' p1 c1 W → LsS W' p2 c2 K → Calls Try.prog 10 #[.agg #[.int .i64 kind, .int .i64 node, .int .i64 inc, .int .i64 ses, .int .i64 tx, .int .i64 seq, .string key, .int .i64 lo, .int .i64 hi, .bool has, .string data, .bool hit, .int .i64 err, .int .i64 n, .slice p1 W.length c1, .slice p2 K.length c2]] W' fun e w' => e = .returned (.tuple #[.string S, .int .i64 E]) ∧ Below W'.heap.size W' w') ∧ (E = 0 → decode S.data.toList = .ok ⟨kind, node, inc, ses, tx, seq, key, lo, hi, has, data, hit, err, n, W, K⟩) := by
    have hw := fun (h : W.length ≤ c1 ∧ c1 ≤ maxLen) => Nat.le_trans h.1 h.2
    have hk := fun (h : K.length ≤ c2 ∧ c2 ≤ maxLen) => Nat.le_trans h.1 h.2
    by_cases hc : chkM ⟨kind, node, inc, ses, tx, seq, key, lo, hi, has, data, hit, err, n, W, K⟩ = 0
    · refine ⟨⟨(encM ⟨kind, node, inc, ses, tx, seq, key, lo, hi, has, data, hit, err, n, W, K⟩).toArray⟩, 0, ?_, fun W' a b => (c_encode ⟨kind, node, inc, ses, tx, seq, key, lo, hi, has, data, hit, err, n, W, K⟩ HI.out p1 c1 p2 c2 W' a (hw a.cap) b (hk b.cap)).mono fun e w' h => ⟨h.1 hc, h.2.2⟩, fun _ => ?_⟩
      · have g1 := encF_le ⟨kind, node, inc, ses, tx, seq, key, lo, hi, has, data, hit, err, n, W, K⟩ HI.out (chk_zero hc).2
        have g2 := encN_le HI.out.kind
        rw [ba_sz]; unfold encM; rw [List.length_append]; omega
      · exact dec_enc HI.out hc
    · exact ⟨⟨#[]⟩, chkM ⟨kind, node, inc, ses, tx, seq, key, lo, hi, has, data, hit, err, n, W, K⟩, by decide, fun W' a b => (c_encode ⟨kind, node, inc, ses, tx, seq, key, lo, hi, has, data, hit, err, n, W, K⟩ HI.out p1 c1 p2 c2 W' a (hw a.cap) b (hk b.cap)).mono fun e w' h => ⟨h.2.1 hc, h.2.2⟩, fun h => absurd h hc⟩
  have HEN := Lib.hid hEN
  have HSE := Lib.hid (And.intro hSE hS6)
  clear hEN hSE hS6
  iterate 3 go_step
  refine ld_op rfl (.tmp 3) rfl b3 rfl #[.int .i64 kind, .int .i64 node, .int .i64 inc, .int .i64 ses, .int .i64 tx, .int .i64 seq, .string key, .int .i64 lo, .int .i64 hi, .bool has, .string data, .bool hit, .int .i64 err, .int .i64 n, .slice p1 W.length c1, .slice p2 K.length c2] k3 rfl ?_
  simp only [Act.put, List.setIfInBounds_toArray, List.set_cons_zero, List.set_cons_succ]
  go_wp2_with fail
  refine (HEN.out w5 HLW.out.pre HLK.out.pre).mono ?_
  rintro e w6 ⟨rfl, hb6⟩
  have hb66 := below_call hb5 hb6
  have k1d := hp_below (below_call hb6 (below_drew (Below.refl w6.heap.size w6))) k1
  have k3d := hp_below (below_call hb6 (below_drew (Below.refl w6.heap.size w6))) k3
  have HL6 := Lib.hid (And.intro (HLW.out.below (below_call hb6 (below_drew (Below.refl w6.heap.size w6)))) (HLK.out.below (below_call hb6 (below_drew (Below.refl w6.heap.size w6)))))
  have HM6 := Lib.hid (And.intro (HWK.out.1.below (below_drew hb66)) (HWK.out.2.below (below_drew hb66)))
  have HSAME := Lib.hid (show ∀ w1, Below w6.drew.heap.size w6.drew w1 → Calls Try.prog 16 #[.agg #[.int .i64 kind, .int .i64 node, .int .i64 inc, .int .i64 ses, .int .i64 tx, .int .i64 seq, .string key, .int .i64 lo, .int .i64 hi, .bool has, .string data, .bool hit, .int .i64 err, .int .i64 n, .slice p1 W.length c1, .slice p2 K.length c2], .agg #[.int .i64 kind, .int .i64 node, .int .i64 inc, .int .i64 ses, .int .i64 tx, .int .i64 seq, .string key, .int .i64 lo, .int .i64 hi, .bool has, .string data, .bool hit, .int .i64 err, .int .i64 n, .slice wp W.length wq, .slice kp K.length kq]] w1 fun e w' => e = .returned (.bool true) ∧ Below w1.heap.size w1 w' from fun w1 hb => (c_same w1 ⟨kind, node, inc, ses, tx, seq, key, lo, hi, has, data, hit, err, n, W, K⟩ ⟨kind, node, inc, ses, tx, seq, key, lo, hi, has, data, hit, err, n, W, K⟩ p1 p2 wp kp c1 c2 wq kq (HL6.out.1.pre.below hb) (HL6.out.2.pre.below hb) (HM6.out.1.below hb) (HM6.out.2.below hb)).mono (by rintro e w' ⟨b, he, hbb, hbw⟩; obtain rfl : b = true := hbb.2 rfl; exact ⟨he, hbw⟩))
  obtain ⟨g1, o1, rfl, -, hs1, -, -⟩ := HL6.out.1.at_ W.length ⟨⟨#[115, 112, 97, 114, 101]⟩, false, ⟨#[]⟩⟩ (by simp)
  obtain ⟨g2, o2, rfl, -, hs2⟩ := HL6.out.2.at_ K.length ⟨#[115, 112, 97, 114, 101]⟩ (by simp)
  have HBB := Lib.hid (And.intro hb66 hb6)
  clear hb5 hb6 hb66 k1 k3 HEN
  have hc1 : (W.length : Int) + 1 ≤ (c1 : Int) := by have := HCP.out.1; omega
  have hc2 : (K.length : Int) + 1 ≤ (c2 : Int) := by have := HCP.out.2; omega
  have hc3 : W.length + 1 ≤ c1 := HCP.out.1
  have hc4 : K.length + 1 ≤ c2 := HCP.out.2
  have hn1 : (W.length : Int) < 9223372036854775807 := by have := HN.out.1; omega
  have hn2 : (K.length : Int) < 9223372036854775807 := by have := HN.out.2; omega
  dsimp only at hs1 hs2
  have hwr1 : IntKind.i64.wrap ((W.length : Int) + 1) = (W.length : Int) + 1 := by rw [w_i64]; omega
  have hwr2 : IntKind.i64.wrap ((K.length : Int) + 1) = (K.length : Int) + 1 := by rw [w_i64]; omega
  have hix1 : (W.length : Int) < (W.length : Int) + 1 := by omega
  have hix2 : (K.length : Int) < (K.length : Int) + 1 := by omega
  have hpo1 : 0 ≤ (W.length : Int) + 1 := by omega
  have hpo2 : 0 ≤ (K.length : Int) + 1 := by omega
  have htn1 : ((W.length : Int) + 1).toNat = W.length + 1 := by omega
  have htn2 : ((K.length : Int) + 1).toNat = K.length + 1 := by omega
  go_wp2
  refine Ph.region_at (by kernel_rfl) ?_
  refine Ph.at_quiet 35 (by kernel_rfl) ?_
  simp only [List.take_succ_cons, List.take_zero, List.drop_succ_cons, List.drop_zero]
  apply Ph.wpPh_g; (focus (intro w1 hS0; rw [if_pos (by rfl)]; exact gv_ld (.tmp 3) rfl b3 rfl _ (hp_below hS0 k3d) rfl (Below.refl _ _))); simp only [Act.put, List.setIfInBounds_toArray, List.set_cons_zero, List.set_cons_succ]
  apply Ph.wpPh_g; (focus (intro w1 hS0; rw [if_pos (by rfl)]; exact gv_ld (.tmp 1) rfl w.heap.size rfl _ (hp_below hS0 k1d) rfl (Below.refl _ _))); simp only [Act.put, List.setIfInBounds_toArray, List.set_cons_zero, List.set_cons_succ]
  apply Ph.wpPh_g; (focus (intro w1 hS0; go_simp; refine (HSAME.out w1 hS0).mono ?_; rintro e w2 ⟨rfl, hb⟩; exact ⟨rfl, hb⟩)); simp only [Act.put, List.setIfInBounds_toArray, List.set_cons_zero, List.set_cons_succ]
  apply Ph.wpPh_g; (focus (intro w1 hS0; have hcA := hp_cell (hp_below hS0 k1d); have hcB := hp_cell (hp_below hS0 k3d); have hx1 := cell_below hS0 hs1; have hx2 := cell_below hS0 hs2; go_simp; try (first | exact rfl | exact ⟨rfl, Below.refl _ _⟩ | exact Below.refl _ _))); simp only [Act.put, List.setIfInBounds_toArray, List.set_cons_zero, List.set_cons_succ]
  apply Ph.wpPh_g; (focus (intro w1 hS0; have hcA := hp_cell (hp_below hS0 k1d); have hcB := hp_cell (hp_below hS0 k3d); have hx1 := cell_below hS0 hs1; have hx2 := cell_below hS0 hs2; go_simp; try (first | exact rfl | exact ⟨rfl, Below.refl _ _⟩ | exact Below.refl _ _))); simp only [Act.put, List.setIfInBounds_toArray, List.set_cons_zero, List.set_cons_succ]
  apply Ph.wpPh_g; (focus (intro w1 hS0; have hcA := hp_cell (hp_below hS0 k1d); have hcB := hp_cell (hp_below hS0 k3d); have hx1 := cell_below hS0 hs1; have hx2 := cell_below hS0 hs2; go_simp; try (first | exact rfl | exact ⟨rfl, Below.refl _ _⟩ | exact Below.refl _ _))); simp only [Act.put, List.setIfInBounds_toArray, List.set_cons_zero, List.set_cons_succ]
  apply Ph.wpPh_g; (focus (intro w1 hS0; have hcA := hp_cell (hp_below hS0 k1d); have hcB := hp_cell (hp_below hS0 k3d); have hx1 := cell_below hS0 hs1; have hx2 := cell_below hS0 hs2; go_simp; try (first | exact rfl | exact ⟨rfl, Below.refl _ _⟩ | exact Below.refl _ _))); simp only [Act.put, List.setIfInBounds_toArray, List.set_cons_zero, List.set_cons_succ]
  apply Ph.wpPh_g; (focus (intro w1 hS0; have hcA := hp_cell (hp_below hS0 k1d); have hcB := hp_cell (hp_below hS0 k3d); have hx1 := cell_below hS0 hs1; have hx2 := cell_below hS0 hs2; go_simp; try (first | exact rfl | exact ⟨rfl, Below.refl _ _⟩ | exact Below.refl _ _))); simp only [Act.put, List.setIfInBounds_toArray, List.set_cons_zero, List.set_cons_succ]
  apply Ph.wpPh_g; (focus (intro w1 hS0; have hcA := hp_cell (hp_below hS0 k1d); have hcB := hp_cell (hp_below hS0 k3d); have hx1 := cell_below hS0 hs1; have hx2 := cell_below hS0 hs2; go_simp; try (first | exact rfl | exact ⟨rfl, Below.refl _ _⟩ | exact Below.refl _ _))); simp only [Act.put, List.setIfInBounds_toArray, List.set_cons_zero, List.set_cons_succ]
  apply Ph.wpPh_g; (focus (intro w1 hS0; have hcA := hp_cell (hp_below hS0 k1d); have hcB := hp_cell (hp_below hS0 k3d); have hx1 := cell_below hS0 hs1; have hx2 := cell_below hS0 hs2; go_simp; try (first | exact rfl | exact ⟨rfl, Below.refl _ _⟩ | exact Below.refl _ _))); simp only [Act.put, List.setIfInBounds_toArray, List.set_cons_zero, List.set_cons_succ]
  apply Ph.wpPh_g; (focus (intro w1 hS0; have hcA := hp_cell (hp_below hS0 k1d); have hcB := hp_cell (hp_below hS0 k3d); have hx1 := cell_below hS0 hs1; have hx2 := cell_below hS0 hs2; go_simp; try (first | exact rfl | exact ⟨rfl, Below.refl _ _⟩ | exact Below.refl _ _))); simp only [Act.put, List.setIfInBounds_toArray, List.set_cons_zero, List.set_cons_succ]
  apply Ph.wpPh_g (v := .slice (some ⟨g1, o1, none⟩) (W.length + 1) c1); (focus (intro w1 hS0; have hcA := hp_cell (hp_below hS0 k1d); have hcB := hp_cell (hp_below hS0 k3d); have hx1 := cell_below hS0 hs1; have hx2 := cell_below hS0 hs2; go_simp; try (first | exact rfl | exact ⟨rfl, Below.refl _ _⟩ | exact Below.refl _ _))); simp only [Act.put, List.setIfInBounds_toArray, List.set_cons_zero, List.set_cons_succ]
  apply Ph.wpPh_g; (focus (intro w1 hS0; have hcA := hp_cell (hp_below hS0 k1d); have hcB := hp_cell (hp_below hS0 k3d); have hx1 := cell_below hS0 hs1; have hx2 := cell_below hS0 hs2; go_simp; try (first | exact rfl | exact ⟨rfl, Below.refl _ _⟩ | exact Below.refl _ _))); simp only [Act.put, List.setIfInBounds_toArray, List.set_cons_zero, List.set_cons_succ]
  apply Ph.wpPh_g; (focus (intro w1 hS0; have hcA := hp_cell (hp_below hS0 k1d); have hcB := hp_cell (hp_below hS0 k3d); have hx1 := cell_below hS0 hs1; have hx2 := cell_below hS0 hs2; go_simp; try (first | exact rfl | exact ⟨rfl, Below.refl _ _⟩ | exact Below.refl _ _))); simp only [Act.put, List.setIfInBounds_toArray, List.set_cons_zero, List.set_cons_succ]
  apply Ph.wpPh_g; (focus (intro w1 hS0; have hcA := hp_cell (hp_below hS0 k1d); have hcB := hp_cell (hp_below hS0 k3d); have hx1 := cell_below hS0 hs1; have hx2 := cell_below hS0 hs2; go_simp; try (first | exact rfl | exact ⟨rfl, Below.refl _ _⟩ | exact Below.refl _ _))); simp only [Act.put, List.setIfInBounds_toArray, List.set_cons_zero, List.set_cons_succ]
  apply Ph.wpPh_g (v := .pointer (some ⟨g1, o1 + W.length * 3, none⟩)); (focus (intro w1 hS0; have hcA := hp_cell (hp_below hS0 k1d); have hcB := hp_cell (hp_below hS0 k3d); have hx1 := cell_below hS0 hs1; have hx2 := cell_below hS0 hs2; go_simp; try (first | exact rfl | exact ⟨rfl, Below.refl _ _⟩ | exact Below.refl _ _))); simp only [Act.put, List.setIfInBounds_toArray, List.set_cons_zero, List.set_cons_succ]
  apply Ph.wpPh_g; (focus (intro w1 hS0; have hcA := hp_cell (hp_below hS0 k1d); have hcB := hp_cell (hp_below hS0 k3d); have hx1 := cell_below hS0 hs1; have hx2 := cell_below hS0 hs2; go_simp; try (first | exact rfl | exact ⟨rfl, Below.refl _ _⟩ | exact Below.refl _ _))); simp only [Act.put, List.setIfInBounds_toArray, List.set_cons_zero, List.set_cons_succ]
  apply Ph.wpPh_g; (focus (intro w1 hS0; have hcA := hp_cell (hp_below hS0 k1d); have hcB := hp_cell (hp_below hS0 k3d); have hx1 := cell_below hS0 hs1; have hx2 := cell_below hS0 hs2; go_simp; try (first | exact rfl | exact ⟨rfl, Below.refl _ _⟩ | exact Below.refl _ _))); simp only [Act.put, List.setIfInBounds_toArray, List.set_cons_zero, List.set_cons_succ]
  apply Ph.wpPh_g; (focus (intro w1 hS0; have hcA := hp_cell (hp_below hS0 k1d); have hcB := hp_cell (hp_below hS0 k3d); have hx1 := cell_below hS0 hs1; have hx2 := cell_below hS0 hs2; go_simp; try (first | exact rfl | exact ⟨rfl, Below.refl _ _⟩ | exact Below.refl _ _))); simp only [Act.put, List.setIfInBounds_toArray, List.set_cons_zero, List.set_cons_succ]
  apply Ph.wpPh_g; (focus (intro w1 hS0; have hcA := hp_cell (hp_below hS0 k1d); have hcB := hp_cell (hp_below hS0 k3d); have hx1 := cell_below hS0 hs1; have hx2 := cell_below hS0 hs2; go_simp; try (first | exact rfl | exact ⟨rfl, Below.refl _ _⟩ | exact Below.refl _ _))); simp only [Act.put, List.setIfInBounds_toArray, List.set_cons_zero, List.set_cons_succ]
  apply Ph.wpPh_g; (focus (intro w1 hS0; have hcA := hp_cell (hp_below hS0 k1d); have hcB := hp_cell (hp_below hS0 k3d); have hx1 := cell_below hS0 hs1; have hx2 := cell_below hS0 hs2; go_simp; try (first | exact rfl | exact ⟨rfl, Below.refl _ _⟩ | exact Below.refl _ _))); simp only [Act.put, List.setIfInBounds_toArray, List.set_cons_zero, List.set_cons_succ]
  apply Ph.wpPh_g; (focus (intro w1 hS0; have hcA := hp_cell (hp_below hS0 k1d); have hcB := hp_cell (hp_below hS0 k3d); have hx1 := cell_below hS0 hs1; have hx2 := cell_below hS0 hs2; go_simp; try (first | exact rfl | exact ⟨rfl, Below.refl _ _⟩ | exact Below.refl _ _))); simp only [Act.put, List.setIfInBounds_toArray, List.set_cons_zero, List.set_cons_succ]
  apply Ph.wpPh_g; (focus (intro w1 hS0; have hcA := hp_cell (hp_below hS0 k1d); have hcB := hp_cell (hp_below hS0 k3d); have hx1 := cell_below hS0 hs1; have hx2 := cell_below hS0 hs2; go_simp; try (first | exact rfl | exact ⟨rfl, Below.refl _ _⟩ | exact Below.refl _ _))); simp only [Act.put, List.setIfInBounds_toArray, List.set_cons_zero, List.set_cons_succ]
  apply Ph.wpPh_g; (focus (intro w1 hS0; have hcA := hp_cell (hp_below hS0 k1d); have hcB := hp_cell (hp_below hS0 k3d); have hx1 := cell_below hS0 hs1; have hx2 := cell_below hS0 hs2; go_simp; try (first | exact rfl | exact ⟨rfl, Below.refl _ _⟩ | exact Below.refl _ _))); simp only [Act.put, List.setIfInBounds_toArray, List.set_cons_zero, List.set_cons_succ]
  apply Ph.wpPh_g; (focus (intro w1 hS0; have hcA := hp_cell (hp_below hS0 k1d); have hcB := hp_cell (hp_below hS0 k3d); have hx1 := cell_below hS0 hs1; have hx2 := cell_below hS0 hs2; go_simp; try (first | exact rfl | exact ⟨rfl, Below.refl _ _⟩ | exact Below.refl _ _))); simp only [Act.put, List.setIfInBounds_toArray, List.set_cons_zero, List.set_cons_succ]
  apply Ph.wpPh_g; (focus (intro w1 hS0; have hcA := hp_cell (hp_below hS0 k1d); have hcB := hp_cell (hp_below hS0 k3d); have hx1 := cell_below hS0 hs1; have hx2 := cell_below hS0 hs2; go_simp; try (first | exact rfl | exact ⟨rfl, Below.refl _ _⟩ | exact Below.refl _ _))); simp only [Act.put, List.setIfInBounds_toArray, List.set_cons_zero, List.set_cons_succ]
  apply Ph.wpPh_g; (focus (intro w1 hS0; have hcA := hp_cell (hp_below hS0 k1d); have hcB := hp_cell (hp_below hS0 k3d); have hx1 := cell_below hS0 hs1; have hx2 := cell_below hS0 hs2; go_simp; try (first | exact rfl | exact ⟨rfl, Below.refl _ _⟩ | exact Below.refl _ _))); simp only [Act.put, List.setIfInBounds_toArray, List.set_cons_zero, List.set_cons_succ]
  apply Ph.wpPh_g (v := .slice (some ⟨g2, o2, none⟩) (K.length + 1) c2); (focus (intro w1 hS0; have hcA := hp_cell (hp_below hS0 k1d); have hcB := hp_cell (hp_below hS0 k3d); have hx1 := cell_below hS0 hs1; have hx2 := cell_below hS0 hs2; go_simp; try (first | exact rfl | exact ⟨rfl, Below.refl _ _⟩ | exact Below.refl _ _))); simp only [Act.put, List.setIfInBounds_toArray, List.set_cons_zero, List.set_cons_succ]
  apply Ph.wpPh_g; (focus (intro w1 hS0; have hcA := hp_cell (hp_below hS0 k1d); have hcB := hp_cell (hp_below hS0 k3d); have hx1 := cell_below hS0 hs1; have hx2 := cell_below hS0 hs2; go_simp; try (first | exact rfl | exact ⟨rfl, Below.refl _ _⟩ | exact Below.refl _ _))); simp only [Act.put, List.setIfInBounds_toArray, List.set_cons_zero, List.set_cons_succ]
  apply Ph.wpPh_g; (focus (intro w1 hS0; have hcA := hp_cell (hp_below hS0 k1d); have hcB := hp_cell (hp_below hS0 k3d); have hx1 := cell_below hS0 hs1; have hx2 := cell_below hS0 hs2; go_simp; try (first | exact rfl | exact ⟨rfl, Below.refl _ _⟩ | exact Below.refl _ _))); simp only [Act.put, List.setIfInBounds_toArray, List.set_cons_zero, List.set_cons_succ]
  apply Ph.wpPh_g; (focus (intro w1 hS0; have hcA := hp_cell (hp_below hS0 k1d); have hcB := hp_cell (hp_below hS0 k3d); have hx1 := cell_below hS0 hs1; have hx2 := cell_below hS0 hs2; go_simp; try (first | exact rfl | exact ⟨rfl, Below.refl _ _⟩ | exact Below.refl _ _))); simp only [Act.put, List.setIfInBounds_toArray, List.set_cons_zero, List.set_cons_succ]
  apply Ph.wpPh_g (v := .pointer (some ⟨g2, o2 + K.length, none⟩)); (focus (intro w1 hS0; have hcA := hp_cell (hp_below hS0 k1d); have hcB := hp_cell (hp_below hS0 k3d); have hx1 := cell_below hS0 hs1; have hx2 := cell_below hS0 hs2; go_simp; try (first | exact rfl | exact ⟨rfl, Below.refl _ _⟩ | exact Below.refl _ _))); simp only [Act.put, List.setIfInBounds_toArray, List.set_cons_zero, List.set_cons_succ]
  apply Ph.wpPh_g; (focus (intro w1 hS0; have hcA := hp_cell (hp_below hS0 k1d); have hcB := hp_cell (hp_below hS0 k3d); have hx1 := cell_below hS0 hs1; have hx2 := cell_below hS0 hs2; go_simp; try (first | exact rfl | exact ⟨rfl, Below.refl _ _⟩ | exact Below.refl _ _))); simp only [Act.put, List.setIfInBounds_toArray, List.set_cons_zero, List.set_cons_succ]
  apply Ph.wpPh_g; (focus (intro w1 hS0; have hcA := hp_cell (hp_below hS0 k1d); have hcB := hp_cell (hp_below hS0 k3d); have hx1 := cell_below hS0 hs1; have hx2 := cell_below hS0 hs2; go_simp; try (first | exact rfl | exact ⟨rfl, Below.refl _ _⟩ | exact Below.refl _ _))); simp only [Act.put, List.setIfInBounds_toArray, List.set_cons_zero, List.set_cons_succ]
  apply Ph.wpPh_g; (focus (intro w1 hS0; have hcA := hp_cell (hp_below hS0 k1d); have hcB := hp_cell (hp_below hS0 k3d); have hx1 := cell_below hS0 hs1; have hx2 := cell_below hS0 hs2; go_simp; try (first | exact rfl | exact ⟨rfl, Below.refl _ _⟩ | exact Below.refl _ _))); simp only [Act.put, List.setIfInBounds_toArray, List.set_cons_zero, List.set_cons_succ]
  refine Ph.wpPh_nil ?_; intro w7 hS
  refine Ph.at_end (by simp) ?_
  have hb77 := below_call (below_drew HBB.out.1) hS
  have k1' := hp_below hS k1d
  have HB7 := Lib.hid hb77
  clear hS k1d k3d hs1 hs2 hc1 hc2 hc3 hc4 hn1 hn2 hwr1 hwr2 hix1 hix2 hpo1 hpo2 htn1 htn2 HBB HSAME HL6 HM6 HLW HLK HCP hb77
  by_cases hE : E = 0
  rotate_left
  · have hne : (E != 0) = true := by simpa using hE
    clear hE
    go_wp2
    go_ret
    exact ⟨rfl, HB7.out⟩
  subst hE
  have HDE := Lib.hid (HSE.out.1 rfl)
  go_wp2_with fail
  refine (c_decode S (Nat.le_trans HSE.out.2 (by decide)) w7).mono ?_
  rintro e w8 ⟨hb8, hD⟩
  rcases hD with ⟨er, hd, rfl⟩ | ⟨m', c, wa, wca, ka, kca, hd, rfl, hcc, hrw, hrk⟩
  · rw [HDE.out] at hd; cases hd
  rw [HDE.out] at hd
  injection hd with hd
  subst hd
  dsimp only [Mg.cs] at hrw hrk ⊢
  iterate 10 go_step
  refine al_op rfl rfl ?_
  simp only [Act.put, List.setIfInBounds_toArray, List.set_cons_zero, List.set_cons_succ]
  refine st_op rfl (.tmp 6) (.tmp 83) rfl w8.heap.size #[.int .i64 kind, .int .i64 node, .int .i64 inc, .int .i64 ses, .int .i64 tx, .int .i64 seq, .string key, .int .i64 lo, .int .i64 hi, .bool has, .string data, .bool hit, .int .i64 err, .int .i64 n, .slice wa W.length wca, .slice ka K.length kca] rfl rfl Z30 (hp_alloc_new _ _) rfl rfl (by simp [Value.oneCell']) ?_
  simp only [Act.put, List.setIfInBounds_toArray, List.set_cons_zero, List.set_cons_succ]
  have k6 := hp_row (cs' := #[.int .i64 kind, .int .i64 node, .int .i64 inc, .int .i64 ses, .int .i64 tx, .int .i64 seq, .string key, .int .i64 lo, .int .i64 hi, .bool has, .string data, .bool hit, .int .i64 err, .int .i64 n, .slice wa W.length wca, .slice ka K.length kca]) (hp_alloc_new w8 (.cells Z30 30))
  have hs6 : Below w8.heap.size w8 ((w8.alloc (.cells Z30 30)).setRow w8.heap.size #[.int .i64 kind, .int .i64 node, .int .i64 inc, .int .i64 ses, .int .i64 tx, .int .i64 seq, .string key, .int .i64 lo, .int .i64 hi, .bool has, .string data, .bool hit, .int .i64 err, .int .i64 n, .slice wa W.length wca, .slice ka K.length kca]) := below_row (by (repeat (first | (with_reducible exact Below.refl _ _) | (with_reducible refine below_drew ?_) | (with_reducible refine below_alloc ?_ _)))) (Nat.le_refl _) _
  have HB9 := Lib.hid (below_call HB7.out (below_call hb8 hs6))
  have k1'' := hp_below hs6 (hp_below hb8 k1')
  have hlt8 : w8.heap.size < ((w8.alloc (.cells Z30 30)).setRow w8.heap.size #[.int .i64 kind, .int .i64 node, .int .i64 inc, .int .i64 ses, .int .i64 tx, .int .i64 seq, .string key, .int .i64 lo, .int .i64 hi, .bool has, .string data, .bool hit, .int .i64 err, .int .i64 n, .slice wa W.length wca, .slice ka K.length kca]).heap.size := hp_lt k6
  have HC := Lib.hid (And.intro hcc (And.intro hrw (And.intro hrk (And.intro hs6 (And.intro hlt8 (Nat.lt_of_lt_of_le (hp_lt k1') (Nat.le_refl _)))))))
  clear hcc hrw hrk hs6 hlt8 hb8 k1'
  obtain ⟨w9, hw9⟩ : ∃ w9, w9 = (w8.alloc (.cells Z30 30)).setRow w8.heap.size #[.int .i64 kind, .int .i64 node, .int .i64 inc, .int .i64 ses, .int .i64 tx, .int .i64 seq, .string key, .int .i64 lo, .int .i64 hi, .bool has, .string data, .bool hit, .int .i64 err, .int .i64 n, .slice wa W.length wca, .slice ka K.length kca] := ⟨_, rfl⟩
  rw [← hw9] at k6 k1'' HB9 HC ⊢
  clear hw9
  go_wp2_with fail
  refine (c_decode S (Nat.le_trans HSE.out.2 (by decide)) w9).mono ?_
  rintro e w10 ⟨hb10, hD⟩
  rcases hD with ⟨er, hd, rfl⟩ | ⟨m', c2', wb, wcb, kb, kcb, hd, rfl, hcc2, hrw2, hrk2⟩
  · rw [HDE.out] at hd; cases hd
  rw [HDE.out] at hd
  injection hd with hd
  subst hd
  dsimp only [Mg.cs] at hrw2 hrk2 ⊢
  iterate 10 go_step
  refine al_op rfl rfl ?_
  simp only [Act.put, List.setIfInBounds_toArray, List.set_cons_zero, List.set_cons_succ]
  refine st_op rfl (.tmp 8) (.tmp 88) rfl w10.heap.size #[.int .i64 kind, .int .i64 node, .int .i64 inc, .int .i64 ses, .int .i64 tx, .int .i64 seq, .string key, .int .i64 lo, .int .i64 hi, .bool has, .string data, .bool hit, .int .i64 err, .int .i64 n, .slice wb W.length wcb, .slice kb K.length kcb] rfl rfl Z30 (hp_alloc_new _ _) rfl rfl (by simp [Value.oneCell']) ?_
  simp only [Act.put, List.setIfInBounds_toArray, List.set_cons_zero, List.set_cons_succ]
  have k8 := hp_row (cs' := #[.int .i64 kind, .int .i64 node, .int .i64 inc, .int .i64 ses, .int .i64 tx, .int .i64 seq, .string key, .int .i64 lo, .int .i64 hi, .bool has, .string data, .bool hit, .int .i64 err, .int .i64 n, .slice wb W.length wcb, .slice kb K.length kcb]) (hp_alloc_new w10 (.cells Z30 30))
  have hs8 : Below w10.heap.size w10 ((w10.alloc (.cells Z30 30)).setRow w10.heap.size #[.int .i64 kind, .int .i64 node, .int .i64 inc, .int .i64 ses, .int .i64 tx, .int .i64 seq, .string key, .int .i64 lo, .int .i64 hi, .bool has, .string data, .bool hit, .int .i64 err, .int .i64 n, .slice wb W.length wcb, .slice kb K.length kcb]) := below_row (by (repeat (first | (with_reducible exact Below.refl _ _) | (with_reducible refine below_drew ?_) | (with_reducible refine below_alloc ?_ _)))) (Nat.le_refl _) _
  have hb9z := below_call hb10 hs8
  have hbz := below_call HB9.out hb9z
  have k1z := hp_below hb9z k1''
  have k6z := hp_below hb9z k6
  have hb8z := below_call HC.out.2.2.2.1 hb9z
  have hlwb := (row_lsW hrw2).below hs8
  have hlkb := (row_lsS hrk2).below hs8
  have hge1 : ∀ g o, wb = some ⟨g, o, none⟩ → w9.heap.size ≤ g := fun g o e => by
    rcases Nat.lt_or_ge g w9.heap.size with h | h
    · subst e
      have h1 := hrw2.col g rfl
      rw [hcc2 g h] at h1; cases h1
    · exact h
  have hge2 : ∀ g o, kb = some ⟨g, o, none⟩ → w9.heap.size ≤ g := fun g o e => by
    rcases Nat.lt_or_ge g w9.heap.size with h | h
    · subst e
      have h1 := hrk2.col g rfl
      rw [hcc2 g h] at h1; cases h1
    · exact h
  obtain ⟨wz, hwz⟩ : ∃ wz, wz = (w10.alloc (.cells Z30 30)).setRow w10.heap.size #[.int .i64 kind, .int .i64 node, .int .i64 inc, .int .i64 ses, .int .i64 tx, .int .i64 seq, .string key, .int .i64 lo, .int .i64 hi, .bool has, .string data, .bool hit, .int .i64 err, .int .i64 n, .slice wb W.length wcb, .slice kb K.length kcb] := ⟨_, rfl⟩
  rw [← hwz] at k8 k1z k6z hb8z hbz hlwb hlkb ⊢
  have hlt10 : w8.heap.size ≤ w10.heap.size := Nat.le_trans (Nat.le_of_lt HC.out.2.2.2.2.1) hb10.size
  obtain ⟨col, hcol⟩ : ∃ col, col = paint c w8 0 := ⟨_, rfl⟩
  have hcn : ∀ k, w8.heap.size ≤ k → col k = 0 := fun k hk => by rw [hcol]; exact paint_new hk
  have hco : ∀ k, k < w7.heap.size → col k = 0 := fun k hk => by
    rw [hcol]
    unfold paint
    split
    · exact HC.out.1 k hk
    · rfl
  have hmz : Mv [] c w8 col wz := by rw [hcol]; exact Mv.new hb8z 0
  have hrA := HC.out.2.1.kept hmz (by simp)
  have hkA := HC.out.2.2.1.kept hmz (by simp)
  have hx1 : col w.heap.size = 0 := hco _ HC.out.2.2.2.2.2
  have hx6 : col w8.heap.size = 0 := hcn _ (Nat.le_refl _)
  have hx8 : col w10.heap.size = 0 := hcn _ hlt10
  have hs1 : 0 < W.length → ∃ g cur, wa = some ⟨g, 0, none⟩ ∧ hp wz g = some (.cells cur 49 (0, 0)) ∧ W.length * 3 ≤ cur.size ∧ col g = 3 := fun hn => by
    obtain ⟨g, cc, cur, hv, hg, h2, h3, h4, -⟩ := hrA.pos hn
    injection hv with e1 e2 e3
    subst e1 e3
    exact ⟨g, cur, rfl, hg, by rw [h4]; exact Nat.mul_le_mul_right _ h2, hrA.col g rfl⟩
  have hs2 : 0 < K.length → ∃ g cur, ka = some ⟨g, 0, none⟩ ∧ hp wz g = some (.cells cur 9 (0, 0)) ∧ K.length ≤ cur.size ∧ col g = 5 := fun hn => by
    obtain ⟨g, cc, cur, hv, hg, h2, h3, h4, -⟩ := hkA.pos hn
    injection hv with e1 e2 e3
    subst e1 e3
    exact ⟨g, cur, rfl, hg, by rw [h4]; omega, hkA.col g rfl⟩
  have HX := Lib.hid (And.intro hx1 (And.intro hx6 hx8))
  have HS2 := Lib.hid hs2
  have HZ := Lib.hid (And.intro k1z (And.intro k6z k8))
  have HBL := Lib.hid (And.intro hlwb (And.intro hlkb (And.intro hge1 (And.intro hge2 (And.intro hcn (And.intro hco (And.intro hbz hlt10)))))))
  clear hx1 hx6 hx8 hs2 k1z k6z k8 hlwb hlkb hge1 hge2 hcn hco hbz hrA hkA hmz hcol hwz hb8z hb9z hb10 hs8 hcc2 hrw2 hrk2 k1'' k6 hlt10
  generalize w8.heap.size = b6 at *
  generalize w10.heap.size = b8 at *
  go_wp2
  go_loopw [10] (KW_Inv col wz wa W.length) (fun t _ => (W.length - (intOf t).toNat))
  case atStart => exact ⟨0, rfl, Nat.zero_le _, Mv.refl, hs1⟩
  case round =>
    obtain ⟨j, rfl, hj, hm, hown⟩ := hrel
    have hn64 : (W.length : Int) < 9223372036854775807 := by have := HN.out.1; omega
    have k6v := hp_mv HZ.out.2.1 hm (by rw [HX.out.2.1]; simp)
    have hc6 := hp_cell k6v
    by_cases hlt : j < W.length
    · have hj64 : (j : Int) < 9223372036854775807 := by omega
      obtain ⟨g, cur, rfl, hg, hcs, hcg⟩ := hown (by omega)
      have hcc := hp_cell hg (j * 3)
      have hcx : cur[j * 3]? = some (cur[j * 3]'(by omega)) := Array.getElem?_eq_getElem (by omega)
      rw [hcx] at hcc
      have hff := hp_free hg (j * 3)
      generalize cur[j * 3]'(by omega) = old at hcc
      clear hcx
      go_wp2
      go_roundw
      case rel => exact ⟨j + 1, by go_num, by omega, mv_set hm (p := ⟨g, j * 3, none⟩) (by show col g ∈ _; rw [hcg]; simp) _, fun _ => ⟨g, _, rfl, hp_set hg _, by simpa using hcs, hcg⟩⟩
      case measure => simp [intOf]; omega
    · obtain rfl : j = W.length := by omega
      have hs2' : 0 < K.length → ∃ g cur, ka = some ⟨g, 0, none⟩ ∧ hp wr g = some (.cells cur 9 (0, 0)) ∧ K.length ≤ cur.size ∧ col g = 5 := fun hn => by
        obtain ⟨g, cur, h1, h2, h3, h4⟩ := HS2.out hn
        exact ⟨g, cur, h1, hp_mv h2 hm (by rw [h4]; simp), h3, h4⟩
      have hm5 : Mv [3, 5] col wz col wr := hm.sub (by simp)
      clear hm hown k6v hlt hj
      go_wp2
      clear hc6 hn64
      go_loopw [11] (KK_Inv col wz ka K.length) (fun t _ => (K.length - (intOf t).toNat))
      case atStart => exact ⟨0, rfl, Nat.zero_le _, hm5, hs2'⟩
      case round =>
        obtain ⟨j, rfl, hj, hm, hown⟩ := hrel
        have hn64 : (K.length : Int) < 9223372036854775807 := by have := HN.out.2; omega
        have k6v := hp_mv HZ.out.2.1 hm (by rw [HX.out.2.1]; simp)
        have hc6 := hp_cell k6v
        by_cases hlt : j < K.length
        · have hj64 : (j : Int) < 9223372036854775807 := by omega
          obtain ⟨g, cur, rfl, hg, hcs, hcg⟩ := hown (by omega)
          have hcc := hp_cell hg j
          have hcx : cur[j]? = some (cur[j]'(by omega)) := Array.getElem?_eq_getElem (by omega)
          rw [hcx] at hcc
          have hff := hp_free hg j
          generalize cur[j]'(by omega) = old at hcc
          clear hcx
          go_wp2
          go_roundw
          case rel => exact ⟨j + 1, by go_num, by omega, mv_set hm (p := ⟨g, j, none⟩) (by show col g ∈ _; rw [hcg]; simp) _, fun _ => ⟨g, _, rfl, hp_set hg _, by simpa using hcs, hcg⟩⟩
          case measure => simp [intOf]; omega
        · obtain rfl : j = K.length := by omega
          have k8v := hp_mv HZ.out.2.2 hm (by rw [HX.out.2.2]; simp)
          have k1v := hp_mv HZ.out.1 hm (by rw [HX.out.1]; simp)
          have hbv : Below w.heap.size w wr := below_mvS HBL.out.2.2.2.2.2.2.1 hm (fun k hk => by rw [HBL.out.2.2.2.2.2.1 k (Nat.lt_of_lt_of_le hk HB7.out.size)]; simp)
          have hcb : ∀ g, w9.heap.size ≤ g → col g ∉ [3, 5] := fun g hg => by rw [HBL.out.2.2.2.2.1 g (Nat.le_trans (Nat.le_of_lt HC.out.2.2.2.2.1) hg)]; simp
          have l1 := HBL.out.1.mv hm (fun g o e _ => hcb g (HBL.out.2.2.1 g o e))
          have l2 := HBL.out.2.1.mv hm (fun g o e _ => hcb g (HBL.out.2.2.2.1 g o e))
          have HSM := Lib.hid (c_same wr ⟨kind, node, inc, ses, tx, seq, key, lo, hi, has, data, hit, err, n, W, K⟩ ⟨kind, node, inc, ses, tx, seq, key, lo, hi, has, data, hit, err, n, W, K⟩ wb kb wp kp wcb kcb wq kq l1 l2 (HWK.out.1.below hbv) (HWK.out.2.below hbv))
          clear l1 l2 hcb hm hown
          iterate 30 go_step
          refine ld_op rfl (.tmp 8) rfl b8 rfl _ k8v rfl ?_
          simp only [Act.put, List.setIfInBounds_toArray, List.set_cons_zero, List.set_cons_succ]
          refine ld_op rfl (.tmp 1) rfl w.heap.size rfl _ k1v rfl ?_
          simp only [Act.put, List.setIfInBounds_toArray, List.set_cons_zero, List.set_cons_succ]
          go_wp2_with fail
          refine HSM.out.mono ?_
          rintro e wq' ⟨b, rfl, hb, hbf⟩
          obtain rfl : b = true := hb.2 (by first | trivial | rfl)
          clear hb
          go_wp2
          go_ret
          exact ⟨rfl, below_call hbv hbf⟩

theorem c_keeps (m : Mg) (hIn : m.In) (wp : Option Addr) (wc : Nat) (kp : Option Addr) (kc : Nat) (w : World) (hW : LsW w wp wc m.W) (hK : LsS w kp kc m.K) (hWn : m.W.length * 40 ≤ 140737488351232) (hKn : m.K.length * 16 ≤ 140737488351232) :
    Calls Try.prog 8 #[.agg (m.cs wp wc kp kc)] w fun e w' => e = .returned (.bool true) ∧ Below w.heap.size w w' := by
  obtain ⟨kind, node, inc, ses, tx, seq, key, lo, hi, has, data, hit, err, n, W, K⟩ := m
  exact c_keepsR kind node inc ses tx seq lo hi err n key data has hit W K wp kp wc kc w hIn hW hK hWn hKn

end Go.Proofs.Ytiklpifaaogcpaa
