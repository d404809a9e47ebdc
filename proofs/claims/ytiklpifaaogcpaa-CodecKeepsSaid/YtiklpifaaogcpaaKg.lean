/- fields: the fields of a message. -/
import Derived.Test.YtiklpifaaogcpaaKf
import Derived.WalkKit
import Derived.WalkLawsBesides
import Derived.WalkSpells
import Derived.Below
import Derived.Deep.RegionHeld3
import Derived.Deep.QuietTactic
import Derived.BigQuiet
import Derived.Deep.DeepCutAuto
import Derived.Deep.DeepMust
import Derived.KernelRfl
import Derived.Lib.Hide
import Derived.Outline
import Derived.RegionTactic
import Derived.StillTailTactics
import Derived.Laws.IdiomStrings
import Derived.Handy
namespace Go.Proofs.Ytiklpifaaogcpaa
open Go.RowKit Go.Cl Go.Wr Go.Kc
set_option maxRecDepth 100000
set_option linter.unusedVariables false
set_option linter.unusedSimpArgs false

section
variable {σ : Type} (Λ : Lane σ)

theorem c_told (col : Nat → Nat) (w : World) (s : σ) (x : Nat) (m : Mg) (hS : Λ.LS col w s) (hM : MsgAt col w x m) (hI : m.In) (hL : m.W.length ≤ 9223372036854775807 ∧ m.K.length ≤ 9223372036854775807) (hf : Λ.fit (toldT Λ.o m s).2) :
    Calls Try.prog 57 #[.iface Λ.lt Λ.lv, .pointer (some ⟨x, 0, none⟩)] w (LPost Λ.LS [1, 2, 3, 4, 5] col w (toldT Λ.o m s) (fun y c w' => MsgAt c w' x y) (Kep x 2 30 16)) := by
  by_cases h7 : m.kind = 7
  · exact c_told_7 Λ col w s x m h7 hS hM hI hL hf
  by_cases h8 : m.kind = 8
  · exact c_told_8 Λ col w s x m h8 hS hM hI hL hf
  by_cases h9 : m.kind = 9
  · exact c_told_9 Λ col w s x m h9 hS hM hI hL hf
  by_cases h10 : m.kind = 10
  · exact c_told_10 Λ col w s x m h10 hS hM hI hL hf
  by_cases h11 : m.kind = 11
  · exact c_told_11 Λ col w s x m h11 hS hM hI hL hf
  exact c_told_0 Λ col w s x m h7 h8 h9 h10 h11 hS hM hI hL hf

set_option maxHeartbeats 1000000 in
theorem c_fields_1 (col : Nat → Nat) (w : World) (s : σ) (x : Nat) (m : Mg) (hk : m.kind = 1) (hS : Λ.LS col w s) (hM : MsgAt col w x m) (hI : m.In) (hL : m.W.length ≤ 9223372036854775807 ∧ m.K.length ≤ 9223372036854775807) (hf : Λ.fit (fieldsT Λ.o m s).2) :
    Calls Try.prog 20 #[.iface Λ.lt Λ.lv, .pointer (some ⟨x, 0, none⟩)] w (LPost Λ.LS [1, 2, 3, 4, 5] col w (fieldsT Λ.o m s) (fun y c w' => MsgAt c w' x y) (Kep x 2 30 16)) := by
  have hm_ := Λ.mnum
  have he_ := Λ.enum
  have hn_ := Λ.nnum
  have hmt := Λ.mtext
  have het := Λ.etext
  have hnt := Λ.ntext
  have hmb := Λ.mbool
  have heb := Λ.ebool
  have hnb := Λ.nbool
  have hb : Below w.heap.size w (w.alloc (.cells #[.iface Λ.lt Λ.lv] 97)) := below_alloc (Below.refl _ _) _
  have HZ0 : Hid (Blk (paint col w 6) 6 (w.alloc (.cells #[.iface Λ.lt Λ.lv] 97)) w.heap.size #[.iface Λ.lt Λ.lv] 97) := Lib.hid ⟨hp_alloc_new _ _, paint_new (Nat.le_refl _)⟩
  have HH0 : Hid (Mv [1, 2, 3, 4, 5] col w (paint col w 6) (w.alloc (.cells #[.iface Λ.lt Λ.lv] 97))) := Lib.hid (Mv.new hb 6)
  have HS0 := Lib.hid (Λ.kept hS (Mv.new (S := []) hb 6) (by simp))
  have HM0 := Lib.hid (hM.kept (Mv.new (S := []) hb 6) (by simp) (by simp) (by simp))
  have HI := Lib.hid hI
  have HL := Lib.hid hL
  have hV0 := fields_1 Λ.o m hk
  rw [hV0] at hf
  have HF0 := Lib.hid hf
  have HV0 := Lib.hid (congrFun hV0 s)
  clear hf hS hM hI hL hb hV0
  generalize hz0 : w.heap.size = z at *
  generalize paint col w 6 = c0 at *
  go_enter Try.func20, Try.ntmps20
  go_upto_region 1 with fail
  generalize w.alloc (.cells #[.iface Λ.lt Λ.lv] 97) = w0 at *
  have hk0 : w0.cell? ⟨x, 0, none⟩ = some (.int .i64 m.kind) := HM0.out.c0
  go_wp2
  have hz := hp_cell HZ0.out.hp 0
  simp only [List.getElem?_toArray, List.getElem?_cons_zero] at hz
  refine Ph.region_at (by kernel_rfl) ?_
  refine Ph.at_quiet 4 (by kernel_rfl) ?_
  simp only [List.take_succ_cons, List.take_zero, List.drop_succ_cons, List.drop_zero]
  repeat ((first | (apply Ph.wpPh_g; (focus (intro wq hS0; have hbq := below_call (below_drew (Below.refl _ _)) hS0; have hzq := cell_below hbq hz; go_simp; first | exact rfl | exact ⟨rfl, Below.refl _ _⟩)))); simp only [Act.put, List.setIfInBounds_toArray, List.set_cons_zero, List.set_cons_succ])
  refine Ph.wpPh_nil ?_; intro v1 hSx
  have hv1 := below_call (below_drew (Below.refl _ _)) hSx
  clear hSx
  refine Ph.at_op rfl (by kernel_rfl) ?_
  go_wp2_with fail
  refine (f_ses Λ c0 v1 _ x _ (Λ.kept HS0.out (Mv.of_below (S := []) hv1) (by simp)) (HM0.out.below hv1) HI.out.ses (fit_left (by intros; repeat (first | exact mono_ret _ | exact mono_fail _ | exact Λ.fit_num _ | exact Λ.fit_text _ _ | exact Λ.fit_bool _ | exact mono_value Λ _ _ | exact mono_pin Λ _ _ | exact mono_asked Λ _ | exact mono_list Λ (mono_elem Λ) _ _ | exact mono_list Λ (mono_key Λ) _ _ | (refine mono_bind ?_ fun _ => ?_) | split)) HF0.out)).mono ?_
  rintro e w1 ⟨c1, hm1, ⟨a1, hr1, rfl, hS1, hM1⟩ | ⟨er, hr1, h0, rfl, hE⟩⟩
  rotate_left
  · exact ⟨rfl, .fail ((HH0.out.after_below hv1).trans (hm1.sub (by simp))) (HV0.out.trans (bind_error hr1)) h0 hE⟩
  have HH1 := Lib.hid ((HH0.out.after_below hv1).trans (hm1.sub (by simp)))
  have HV1 := Lib.hid (HV0.out.trans (bind_ok hr1))
  have HF1 := Lib.hid (fit_step HF0.out hr1)
  have HZ1 := Lib.hid ((HZ0.out.kept (Mv.of_below (S := []) hv1) (by simp)).kept hm1 (by decide))
  have HS1 := Lib.hid hS1
  have HM1 := Lib.hid hM1
  clear hm1 hr1 hS1 hM1 hz hv1
  go_wp2
  refine Ph.at_end (by simp) ?_
  go_wp2
  have hz := hp_cell HZ1.out.hp 0
  simp only [List.getElem?_toArray, List.getElem?_cons_zero] at hz
  refine Ph.region_at (by kernel_rfl) ?_
  refine Ph.at_quiet 4 (by kernel_rfl) ?_
  simp only [List.take_succ_cons, List.take_zero, List.drop_succ_cons, List.drop_zero]
  repeat ((first | (apply Ph.wpPh_g; (focus (intro wq hS0; have hbq := below_call (below_drew (Below.refl _ _)) hS0; have hzq := cell_below hbq hz; go_simp; first | exact rfl | exact ⟨rfl, Below.refl _ _⟩)))); simp only [Act.put, List.setIfInBounds_toArray, List.set_cons_zero, List.set_cons_succ])
  refine Ph.wpPh_nil ?_; intro v2 hSx
  have hv2 := below_call (below_drew (Below.refl _ _)) hSx
  clear hSx
  refine Ph.at_op rfl (by kernel_rfl) ?_
  go_wp2_with fail
  refine (f_seq Λ c1 v2 _ x _ (Λ.kept HS1.out (Mv.of_below (S := []) hv2) (by simp)) (HM1.out.below hv2) HI.out.seq (fit_left (by intros; repeat (first | exact mono_ret _ | exact mono_fail _ | exact Λ.fit_num _ | exact Λ.fit_text _ _ | exact Λ.fit_bool _ | exact mono_value Λ _ _ | exact mono_pin Λ _ _ | exact mono_asked Λ _ | exact mono_list Λ (mono_elem Λ) _ _ | exact mono_list Λ (mono_key Λ) _ _ | (refine mono_bind ?_ fun _ => ?_) | split)) HF1.out)).mono ?_
  rintro e w2 ⟨c2, hm2, ⟨a2, hr2, rfl, hS2, hM2⟩ | ⟨er, hr2, h0, rfl, hE⟩⟩
  rotate_left
  · exact ⟨rfl, .fail ((HH1.out.after_below hv2).trans (hm2.sub (by simp))) (HV1.out.trans (bind_error hr2)) h0 hE⟩
  have HH2 := Lib.hid ((HH1.out.after_below hv2).trans (hm2.sub (by simp)))
  have HV2 := Lib.hid (HV1.out.trans (bind_ok hr2))
  have HF2 := Lib.hid (fit_step HF1.out hr2)
  have HZ2 := Lib.hid ((HZ1.out.kept (Mv.of_below (S := []) hv2) (by simp)).kept hm2 (by decide))
  have HS2 := Lib.hid hS2
  have HM2 := Lib.hid hM2
  clear hm2 hr2 hS2 hM2 hz hv2
  go_wp2
  refine Ph.at_end (by simp) ?_
  go_wp2
  have hz := hp_cell HZ2.out.hp 0
  simp only [List.getElem?_toArray, List.getElem?_cons_zero] at hz
  refine Ph.region_at (by kernel_rfl) ?_
  refine Ph.at_quiet 5 (by kernel_rfl) ?_
  simp only [List.take_succ_cons, List.take_zero, List.drop_succ_cons, List.drop_zero]
  repeat ((first | (apply Ph.wpPh_g; (focus (intro wq hS0; have hbq := below_call (below_drew (Below.refl _ _)) hS0; have hzq := cell_below hbq hz; go_simp; first | exact rfl | exact ⟨rfl, Below.refl _ _⟩)))); simp only [Act.put, List.setIfInBounds_toArray, List.set_cons_zero, List.set_cons_succ])
  refine Ph.wpPh_nil ?_; intro v3 hSx
  have hv3 := below_call (below_drew (Below.refl _ _)) hSx
  clear hSx
  refine Ph.at_op rfl (by kernel_rfl) ?_
  go_wp2_with fail
  refine (f_W Λ z c2 v3 _ x _ (Λ.kept HS2.out (Mv.of_below (S := []) hv3) (by simp)) (HZ2.out.kept (Mv.of_below (S := []) hv3) (by simp)) (HM2.out.below hv3) HL.out.1 (fit_left (by intros; repeat (first | exact mono_ret _ | exact mono_fail _ | exact Λ.fit_num _ | exact Λ.fit_text _ _ | exact Λ.fit_bool _ | exact mono_value Λ _ _ | exact mono_pin Λ _ _ | exact mono_asked Λ _ | exact mono_list Λ (mono_elem Λ) _ _ | exact mono_list Λ (mono_key Λ) _ _ | (refine mono_bind ?_ fun _ => ?_) | split)) HF2.out)).mono ?_
  rintro e w3 ⟨c3, hm3, ⟨a3, hr3, rfl, hS3, hM3⟩ | ⟨er, hr3, h0, rfl, hE⟩⟩
  rotate_left
  · exact ⟨rfl, .fail ((HH2.out.after_below hv3).trans (hm3.sub (by simp))) (HV2.out.trans (bind_error hr3)) h0 hE⟩
  have HH3 := Lib.hid ((HH2.out.after_below hv3).trans (hm3.sub (by simp)))
  have HV3 := Lib.hid (HV2.out.trans (bind_ok hr3))
  have HF3 := Lib.hid (fit_step HF2.out hr3)
  have HZ3 := Lib.hid ((HZ2.out.kept (Mv.of_below (S := []) hv3) (by simp)).kept hm3 (by decide))
  have HS3 := Lib.hid hS3
  have HM3 := Lib.hid hM3
  clear hm3 hr3 hS3 hM3 hz hv3
  go_wp2
  refine Ph.at_end (by simp) ?_
  go_wp2
  refine bodyPost_end (results_none rfl _ _ _) rfl ?_
  exact .done HH3.out HV3.out HS3.out HM3.out

set_option maxHeartbeats 1000000 in
theorem c_fields_2 (col : Nat → Nat) (w : World) (s : σ) (x : Nat) (m : Mg) (hk : m.kind = 2) (hS : Λ.LS col w s) (hM : MsgAt col w x m) (hI : m.In) (hL : m.W.length ≤ 9223372036854775807 ∧ m.K.length ≤ 9223372036854775807) (hf : Λ.fit (fieldsT Λ.o m s).2) :
    Calls Try.prog 20 #[.iface Λ.lt Λ.lv, .pointer (some ⟨x, 0, none⟩)] w (LPost Λ.LS [1, 2, 3, 4, 5] col w (fieldsT Λ.o m s) (fun y c w' => MsgAt c w' x y) (Kep x 2 30 16)) := by
  have hm_ := Λ.mnum
  have he_ := Λ.enum
  have hn_ := Λ.nnum
  have hmt := Λ.mtext
  have het := Λ.etext
  have hnt := Λ.ntext
  have hmb := Λ.mbool
  have heb := Λ.ebool
  have hnb := Λ.nbool
  have hb : Below w.heap.size w (w.alloc (.cells #[.iface Λ.lt Λ.lv] 97)) := below_alloc (Below.refl _ _) _
  have HZ0 : Hid (Blk (paint col w 6) 6 (w.alloc (.cells #[.iface Λ.lt Λ.lv] 97)) w.heap.size #[.iface Λ.lt Λ.lv] 97) := Lib.hid ⟨hp_alloc_new _ _, paint_new (Nat.le_refl _)⟩
  have HH0 : Hid (Mv [1, 2, 3, 4, 5] col w (paint col w 6) (w.alloc (.cells #[.iface Λ.lt Λ.lv] 97))) := Lib.hid (Mv.new hb 6)
  have HS0 := Lib.hid (Λ.kept hS (Mv.new (S := []) hb 6) (by simp))
  have HM0 := Lib.hid (hM.kept (Mv.new (S := []) hb 6) (by simp) (by simp) (by simp))
  have HI := Lib.hid hI
  have HL := Lib.hid hL
  have hV0 := fields_2 Λ.o m hk
  rw [hV0] at hf
  have HF0 := Lib.hid hf
  have HV0 := Lib.hid (congrFun hV0 s)
  clear hf hS hM hI hL hb hV0
  generalize hz0 : w.heap.size = z at *
  generalize paint col w 6 = c0 at *
  go_enter Try.func20, Try.ntmps20
  go_upto_region 1 with fail
  generalize w.alloc (.cells #[.iface Λ.lt Λ.lv] 97) = w0 at *
  have hk0 : w0.cell? ⟨x, 0, none⟩ = some (.int .i64 m.kind) := HM0.out.c0
  go_wp2
  have hz := hp_cell HZ0.out.hp 0
  simp only [List.getElem?_toArray, List.getElem?_cons_zero] at hz
  refine Ph.region_at (by kernel_rfl) ?_
  refine Ph.at_quiet 4 (by kernel_rfl) ?_
  simp only [List.take_succ_cons, List.take_zero, List.drop_succ_cons, List.drop_zero]
  repeat ((first | (apply Ph.wpPh_g; (focus (intro wq hS0; have hbq := below_call (below_drew (Below.refl _ _)) hS0; have hzq := cell_below hbq hz; go_simp; first | exact rfl | exact ⟨rfl, Below.refl _ _⟩)))); simp only [Act.put, List.setIfInBounds_toArray, List.set_cons_zero, List.set_cons_succ])
  refine Ph.wpPh_nil ?_; intro v1 hSx
  have hv1 := below_call (below_drew (Below.refl _ _)) hSx
  clear hSx
  refine Ph.at_op rfl (by kernel_rfl) ?_
  go_wp2_with fail
  refine (f_ses Λ c0 v1 _ x _ (Λ.kept HS0.out (Mv.of_below (S := []) hv1) (by simp)) (HM0.out.below hv1) HI.out.ses (fit_left (by intros; repeat (first | exact mono_ret _ | exact mono_fail _ | exact Λ.fit_num _ | exact Λ.fit_text _ _ | exact Λ.fit_bool _ | exact mono_value Λ _ _ | exact mono_pin Λ _ _ | exact mono_asked Λ _ | exact mono_list Λ (mono_elem Λ) _ _ | exact mono_list Λ (mono_key Λ) _ _ | (refine mono_bind ?_ fun _ => ?_) | split)) HF0.out)).mono ?_
  rintro e w1 ⟨c1, hm1, ⟨a1, hr1, rfl, hS1, hM1⟩ | ⟨er, hr1, h0, rfl, hE⟩⟩
  rotate_left
  · exact ⟨rfl, .fail ((HH0.out.after_below hv1).trans (hm1.sub (by simp))) (HV0.out.trans (bind_error hr1)) h0 hE⟩
  have HH1 := Lib.hid ((HH0.out.after_below hv1).trans (hm1.sub (by simp)))
  have HV1 := Lib.hid (HV0.out.trans (bind_ok hr1))
  have HF1 := Lib.hid (fit_step HF0.out hr1)
  have HZ1 := Lib.hid ((HZ0.out.kept (Mv.of_below (S := []) hv1) (by simp)).kept hm1 (by decide))
  have HS1 := Lib.hid hS1
  have HM1 := Lib.hid hM1
  clear hm1 hr1 hS1 hM1 hz hv1
  go_wp2
  refine Ph.at_end (by simp) ?_
  go_wp2
  have hz := hp_cell HZ1.out.hp 0
  simp only [List.getElem?_toArray, List.getElem?_cons_zero] at hz
  refine Ph.region_at (by kernel_rfl) ?_
  refine Ph.at_quiet 4 (by kernel_rfl) ?_
  simp only [List.take_succ_cons, List.take_zero, List.drop_succ_cons, List.drop_zero]
  repeat ((first | (apply Ph.wpPh_g; (focus (intro wq hS0; have hbq := below_call (below_drew (Below.refl _ _)) hS0; have hzq := cell_below hbq hz; go_simp; first | exact rfl | exact ⟨rfl, Below.refl _ _⟩)))); simp only [Act.put, List.setIfInBounds_toArray, List.set_cons_zero, List.set_cons_succ])
  refine Ph.wpPh_nil ?_; intro v2 hSx
  have hv2 := below_call (below_drew (Below.refl _ _)) hSx
  clear hSx
  refine Ph.at_op rfl (by kernel_rfl) ?_
  go_wp2_with fail
  refine (f_seq Λ c1 v2 _ x _ (Λ.kept HS1.out (Mv.of_below (S := []) hv2) (by simp)) (HM1.out.below hv2) HI.out.seq (fit_left (by intros; repeat (first | exact mono_ret _ | exact mono_fail _ | exact Λ.fit_num _ | exact Λ.fit_text _ _ | exact Λ.fit_bool _ | exact mono_value Λ _ _ | exact mono_pin Λ _ _ | exact mono_asked Λ _ | exact mono_list Λ (mono_elem Λ) _ _ | exact mono_list Λ (mono_key Λ) _ _ | (refine mono_bind ?_ fun _ => ?_) | split)) HF1.out)).mono ?_
  rintro e w2 ⟨c2, hm2, ⟨a2, hr2, rfl, hS2, hM2⟩ | ⟨er, hr2, h0, rfl, hE⟩⟩
  rotate_left
  · exact ⟨rfl, .fail ((HH1.out.after_below hv2).trans (hm2.sub (by simp))) (HV1.out.trans (bind_error hr2)) h0 hE⟩
  have HH2 := Lib.hid ((HH1.out.after_below hv2).trans (hm2.sub (by simp)))
  have HV2 := Lib.hid (HV1.out.trans (bind_ok hr2))
  have HF2 := Lib.hid (fit_step HF1.out hr2)
  have HZ2 := Lib.hid ((HZ1.out.kept (Mv.of_below (S := []) hv2) (by simp)).kept hm2 (by decide))
  have HS2 := Lib.hid hS2
  have HM2 := Lib.hid hM2
  clear hm2 hr2 hS2 hM2 hz hv2
  go_wp2
  refine Ph.at_end (by simp) ?_
  go_wp2
  have hz := hp_cell HZ2.out.hp 0
  simp only [List.getElem?_toArray, List.getElem?_cons_zero] at hz
  refine Ph.region_at (by kernel_rfl) ?_
  refine Ph.at_quiet 4 (by kernel_rfl) ?_
  simp only [List.take_succ_cons, List.take_zero, List.drop_succ_cons, List.drop_zero]
  repeat ((first | (apply Ph.wpPh_g; (focus (intro wq hS0; have hbq := below_call (below_drew (Below.refl _ _)) hS0; have hzq := cell_below hbq hz; go_simp; first | exact rfl | exact ⟨rfl, Below.refl _ _⟩)))); simp only [Act.put, List.setIfInBounds_toArray, List.set_cons_zero, List.set_cons_succ])
  refine Ph.wpPh_nil ?_; intro v3 hSx
  have hv3 := below_call (below_drew (Below.refl _ _)) hSx
  clear hSx
  refine Ph.at_op rfl (by kernel_rfl) ?_
  go_wp2_with fail
  refine (f_err Λ c2 v3 _ x _ (Λ.kept HS2.out (Mv.of_below (S := []) hv3) (by simp)) (HM2.out.below hv3) HI.out.err (fit_left (by intros; repeat (first | exact mono_ret _ | exact mono_fail _ | exact Λ.fit_num _ | exact Λ.fit_text _ _ | exact Λ.fit_bool _ | exact mono_value Λ _ _ | exact mono_pin Λ _ _ | exact mono_asked Λ _ | exact mono_list Λ (mono_elem Λ) _ _ | exact mono_list Λ (mono_key Λ) _ _ | (refine mono_bind ?_ fun _ => ?_) | split)) HF2.out)).mono ?_
  rintro e w3 ⟨c3, hm3, ⟨a3, hr3, rfl, hS3, hM3⟩ | ⟨er, hr3, h0, rfl, hE⟩⟩
  rotate_left
  · exact ⟨rfl, .fail ((HH2.out.after_below hv3).trans (hm3.sub (by simp))) (HV2.out.trans (bind_error hr3)) h0 hE⟩
  have HH3 := Lib.hid ((HH2.out.after_below hv3).trans (hm3.sub (by simp)))
  have HV3 := Lib.hid (HV2.out.trans (bind_ok hr3))
  have HF3 := Lib.hid (fit_step HF2.out hr3)
  have HZ3 := Lib.hid ((HZ2.out.kept (Mv.of_below (S := []) hv3) (by simp)).kept hm3 (by decide))
  have HS3 := Lib.hid hS3
  have HM3 := Lib.hid hM3
  clear hm3 hr3 hS3 hM3 hz hv3
  go_wp2
  refine Ph.at_end (by simp) ?_
  go_wp2
  have hz := hp_cell HZ3.out.hp 0
  simp only [List.getElem?_toArray, List.getElem?_cons_zero] at hz
  refine Ph.region_at (by kernel_rfl) ?_
  refine Ph.at_quiet 7 (by kernel_rfl) ?_
  simp only [List.take_succ_cons, List.take_zero, List.drop_succ_cons, List.drop_zero]
  repeat ((first | (apply Ph.wpPh_g; (focus (intro wq hS0; have hbq := below_call (below_drew (Below.refl _ _)) hS0; have hzq := cell_below hbq hz; go_simp; first | exact rfl | exact ⟨rfl, Below.refl _ _⟩)))); simp only [Act.put, List.setIfInBounds_toArray, List.set_cons_zero, List.set_cons_succ])
  refine Ph.wpPh_nil ?_; intro v4 hSx
  have hv4 := below_call (below_drew (Below.refl _ _)) hSx
  clear hSx
  refine Ph.at_op rfl (by kernel_rfl) ?_
  go_wp2_with fail
  refine (f_n Λ c3 v4 _ x _ (Λ.kept HS3.out (Mv.of_below (S := []) hv4) (by simp)) (HM3.out.below hv4) HI.out.n (fit_left (by intros; repeat (first | exact mono_ret _ | exact mono_fail _ | exact Λ.fit_num _ | exact Λ.fit_text _ _ | exact Λ.fit_bool _ | exact mono_value Λ _ _ | exact mono_pin Λ _ _ | exact mono_asked Λ _ | exact mono_list Λ (mono_elem Λ) _ _ | exact mono_list Λ (mono_key Λ) _ _ | (refine mono_bind ?_ fun _ => ?_) | split)) HF3.out)).mono ?_
  rintro e w4 ⟨c4, hm4, ⟨a4, hr4, rfl, hS4, hM4⟩ | ⟨er, hr4, h0, rfl, hE⟩⟩
  rotate_left
  · exact ⟨rfl, .fail ((HH3.out.after_below hv4).trans (hm4.sub (by simp))) (HV3.out.trans (bind_error hr4)) h0 hE⟩
  have HH4 := Lib.hid ((HH3.out.after_below hv4).trans (hm4.sub (by simp)))
  have HV4 := Lib.hid (HV3.out.trans (bind_ok hr4))
  have HF4 := Lib.hid (fit_step HF3.out hr4)
  have HZ4 := Lib.hid ((HZ3.out.kept (Mv.of_below (S := []) hv4) (by simp)).kept hm4 (by decide))
  have HS4 := Lib.hid hS4
  have HM4 := Lib.hid hM4
  clear hm4 hr4 hS4 hM4 hz hv4
  go_wp2
  refine Ph.at_end (by simp) ?_
  go_wp2
  refine bodyPost_end (results_none rfl _ _ _) rfl ?_
  exact .done HH4.out HV4.out HS4.out HM4.out

set_option maxHeartbeats 1000000 in
theorem c_fields_3 (col : Nat → Nat) (w : World) (s : σ) (x : Nat) (m : Mg) (hk : m.kind = 3) (hS : Λ.LS col w s) (hM : MsgAt col w x m) (hI : m.In) (hL : m.W.length ≤ 9223372036854775807 ∧ m.K.length ≤ 9223372036854775807) (hf : Λ.fit (fieldsT Λ.o m s).2) :
    Calls Try.prog 20 #[.iface Λ.lt Λ.lv, .pointer (some ⟨x, 0, none⟩)] w (LPost Λ.LS [1, 2, 3, 4, 5] col w (fieldsT Λ.o m s) (fun y c w' => MsgAt c w' x y) (Kep x 2 30 16)) := by
  have hm_ := Λ.mnum
  have he_ := Λ.enum
  have hn_ := Λ.nnum
  have hmt := Λ.mtext
  have het := Λ.etext
  have hnt := Λ.ntext
  have hmb := Λ.mbool
  have heb := Λ.ebool
  have hnb := Λ.nbool
  have hb : Below w.heap.size w (w.alloc (.cells #[.iface Λ.lt Λ.lv] 97)) := below_alloc (Below.refl _ _) _
  have HZ0 : Hid (Blk (paint col w 6) 6 (w.alloc (.cells #[.iface Λ.lt Λ.lv] 97)) w.heap.size #[.iface Λ.lt Λ.lv] 97) := Lib.hid ⟨hp_alloc_new _ _, paint_new (Nat.le_refl _)⟩
  have HH0 : Hid (Mv [1, 2, 3, 4, 5] col w (paint col w 6) (w.alloc (.cells #[.iface Λ.lt Λ.lv] 97))) := Lib.hid (Mv.new hb 6)
  have HS0 := Lib.hid (Λ.kept hS (Mv.new (S := []) hb 6) (by simp))
  have HM0 := Lib.hid (hM.kept (Mv.new (S := []) hb 6) (by simp) (by simp) (by simp))
  have HI := Lib.hid hI
  have HL := Lib.hid hL
  have hV0 := fields_3 Λ.o m hk
  rw [hV0] at hf
  have HF0 := Lib.hid hf
  have HV0 := Lib.hid (congrFun hV0 s)
  clear hf hS hM hI hL hb hV0
  generalize hz0 : w.heap.size = z at *
  generalize paint col w 6 = c0 at *
  go_enter Try.func20, Try.ntmps20
  go_upto_region 1 with fail
  generalize w.alloc (.cells #[.iface Λ.lt Λ.lv] 97) = w0 at *
  have hk0 : w0.cell? ⟨x, 0, none⟩ = some (.int .i64 m.kind) := HM0.out.c0
  go_wp2
  have hz := hp_cell HZ0.out.hp 0
  simp only [List.getElem?_toArray, List.getElem?_cons_zero] at hz
  refine Ph.region_at (by kernel_rfl) ?_
  refine Ph.at_quiet 4 (by kernel_rfl) ?_
  simp only [List.take_succ_cons, List.take_zero, List.drop_succ_cons, List.drop_zero]
  repeat ((first | (apply Ph.wpPh_g; (focus (intro wq hS0; have hbq := below_call (below_drew (Below.refl _ _)) hS0; have hzq := cell_below hbq hz; go_simp; first | exact rfl | exact ⟨rfl, Below.refl _ _⟩)))); simp only [Act.put, List.setIfInBounds_toArray, List.set_cons_zero, List.set_cons_succ])
  refine Ph.wpPh_nil ?_; intro v1 hSx
  have hv1 := below_call (below_drew (Below.refl _ _)) hSx
  clear hSx
  refine Ph.at_op rfl (by kernel_rfl) ?_
  go_wp2_with fail
  refine (f_node Λ c0 v1 _ x _ (Λ.kept HS0.out (Mv.of_below (S := []) hv1) (by simp)) (HM0.out.below hv1) HI.out.node (fit_left (by intros; repeat (first | exact mono_ret _ | exact mono_fail _ | exact Λ.fit_num _ | exact Λ.fit_text _ _ | exact Λ.fit_bool _ | exact mono_value Λ _ _ | exact mono_pin Λ _ _ | exact mono_asked Λ _ | exact mono_list Λ (mono_elem Λ) _ _ | exact mono_list Λ (mono_key Λ) _ _ | (refine mono_bind ?_ fun _ => ?_) | split)) HF0.out)).mono ?_
  rintro e w1 ⟨c1, hm1, ⟨a1, hr1, rfl, hS1, hM1⟩ | ⟨er, hr1, h0, rfl, hE⟩⟩
  rotate_left
  · exact ⟨rfl, .fail ((HH0.out.after_below hv1).trans (hm1.sub (by simp))) (HV0.out.trans (bind_error hr1)) h0 hE⟩
  have HH1 := Lib.hid ((HH0.out.after_below hv1).trans (hm1.sub (by simp)))
  have HV1 := Lib.hid (HV0.out.trans (bind_ok hr1))
  have HF1 := Lib.hid (fit_step HF0.out hr1)
  have HZ1 := Lib.hid ((HZ0.out.kept (Mv.of_below (S := []) hv1) (by simp)).kept hm1 (by decide))
  have HS1 := Lib.hid hS1
  have HM1 := Lib.hid hM1
  clear hm1 hr1 hS1 hM1 hz hv1
  go_wp2
  refine Ph.at_end (by simp) ?_
  have hz := hp_cell HZ1.out.hp 0
  simp only [List.getElem?_toArray, List.getElem?_cons_zero] at hz
  go_wp2_with fail
  refine (c_asked Λ c1 w1 _ x _ HS1.out HM1.out HI.out.tx HI.out.seq (fit_left (by intros; repeat (first | exact mono_ret _ | exact mono_fail _ | exact Λ.fit_num _ | exact Λ.fit_text _ _ | exact Λ.fit_bool _ | exact mono_value Λ _ _ | exact mono_pin Λ _ _ | exact mono_asked Λ _ | exact mono_list Λ (mono_elem Λ) _ _ | exact mono_list Λ (mono_key Λ) _ _ | (refine mono_bind ?_ fun _ => ?_) | split)) HF1.out)).mono ?_
  rintro e w2 ⟨c2, hm2, ⟨a2, hr2, rfl, hS2, hM2⟩ | ⟨er, hr2, h0, rfl, hE⟩⟩
  rotate_left
  · exact ⟨rfl, .fail (HH1.out.trans (hm2.sub (by simp))) (HV1.out.trans (bind_error hr2)) h0 hE⟩
  obtain ⟨⟨ta, tb, rfl⟩, hM2⟩ := hM2
  have HH2 := Lib.hid (HH1.out.trans (hm2.sub (by simp)))
  have HV2 := Lib.hid (HV1.out.trans (bind_ok hr2))
  have HF2 := Lib.hid (fit_step HF1.out hr2)
  have HZ2 := Lib.hid (HZ1.out.kept hm2 (by decide))
  have HS2 := Lib.hid hS2
  have HM2 := Lib.hid hM2
  clear hm2 hr2 hS2 hM2 hz
  go_wp2
  have hz := hp_cell HZ2.out.hp 0
  simp only [List.getElem?_toArray, List.getElem?_cons_zero] at hz
  refine Ph.region_at (by kernel_rfl) ?_
  refine Ph.at_quiet 7 (by kernel_rfl) ?_
  simp only [List.take_succ_cons, List.take_zero, List.drop_succ_cons, List.drop_zero]
  repeat ((first | (apply Ph.wpPh_g; (focus (intro wq hS0; have hbq := below_call (below_drew (Below.refl _ _)) hS0; have hzq := cell_below hbq hz; go_simp; first | exact rfl | exact ⟨rfl, Below.refl _ _⟩)))); simp only [Act.put, List.setIfInBounds_toArray, List.set_cons_zero, List.set_cons_succ])
  refine Ph.wpPh_nil ?_; intro v3 hSx
  have hv3 := below_call (below_drew (Below.refl _ _)) hSx
  clear hSx
  refine Ph.at_op rfl (by kernel_rfl) ?_
  go_wp2_with fail
  refine (f_key Λ c2 v3 _ x _ (Λ.kept HS2.out (Mv.of_below (S := []) hv3) (by simp)) (HM2.out.below hv3) (fit_left (by intros; repeat (first | exact mono_ret _ | exact mono_fail _ | exact Λ.fit_num _ | exact Λ.fit_text _ _ | exact Λ.fit_bool _ | exact mono_value Λ _ _ | exact mono_pin Λ _ _ | exact mono_asked Λ _ | exact mono_list Λ (mono_elem Λ) _ _ | exact mono_list Λ (mono_key Λ) _ _ | (refine mono_bind ?_ fun _ => ?_) | split)) HF2.out)).mono ?_
  rintro e w3 ⟨c3, hm3, ⟨a3, hr3, rfl, hS3, hM3⟩ | ⟨er, hr3, h0, rfl, hE⟩⟩
  rotate_left
  · exact ⟨rfl, .fail ((HH2.out.after_below hv3).trans (hm3.sub (by simp))) (HV2.out.trans (bind_error hr3)) h0 hE⟩
  have HH3 := Lib.hid ((HH2.out.after_below hv3).trans (hm3.sub (by simp)))
  have HV3 := Lib.hid (HV2.out.trans (bind_ok hr3))
  have HF3 := Lib.hid (fit_step HF2.out hr3)
  have HZ3 := Lib.hid ((HZ2.out.kept (Mv.of_below (S := []) hv3) (by simp)).kept hm3 (by decide))
  have HS3 := Lib.hid hS3
  have HM3 := Lib.hid hM3
  clear hm3 hr3 hS3 hM3 hz hv3
  go_wp2
  refine Ph.at_end (by simp) ?_
  go_wp2
  have hz := hp_cell HZ3.out.hp 0
  simp only [List.getElem?_toArray, List.getElem?_cons_zero] at hz
  refine Ph.region_at (by kernel_rfl) ?_
  refine Ph.at_quiet 4 (by kernel_rfl) ?_
  simp only [List.take_succ_cons, List.take_zero, List.drop_succ_cons, List.drop_zero]
  repeat ((first | (apply Ph.wpPh_g; (focus (intro wq hS0; have hbq := below_call (below_drew (Below.refl _ _)) hS0; have hzq := cell_below hbq hz; go_simp; first | exact rfl | exact ⟨rfl, Below.refl _ _⟩)))); simp only [Act.put, List.setIfInBounds_toArray, List.set_cons_zero, List.set_cons_succ])
  refine Ph.wpPh_nil ?_; intro v4 hSx
  have hv4 := below_call (below_drew (Below.refl _ _)) hSx
  clear hSx
  refine Ph.at_op rfl (by kernel_rfl) ?_
  go_wp2_with fail
  refine (f_pin Λ c3 v4 _ x _ (Λ.kept HS3.out (Mv.of_below (S := []) hv4) (by simp)) (HM3.out.below hv4) HI.out.lo HI.out.hi (fit_left (by intros; repeat (first | exact mono_ret _ | exact mono_fail _ | exact Λ.fit_num _ | exact Λ.fit_text _ _ | exact Λ.fit_bool _ | exact mono_value Λ _ _ | exact mono_pin Λ _ _ | exact mono_asked Λ _ | exact mono_list Λ (mono_elem Λ) _ _ | exact mono_list Λ (mono_key Λ) _ _ | (refine mono_bind ?_ fun _ => ?_) | split)) HF3.out)).mono ?_
  rintro e w4 ⟨c4, hm4, ⟨a4, hr4, rfl, hS4, hM4⟩ | ⟨er, hr4, h0, rfl, hE⟩⟩
  rotate_left
  · exact ⟨rfl, .fail ((HH3.out.after_below hv4).trans (hm4.sub (by simp))) (HV3.out.trans (bind_error hr4)) h0 hE⟩
  have HH4 := Lib.hid ((HH3.out.after_below hv4).trans (hm4.sub (by simp)))
  have HV4 := Lib.hid (HV3.out.trans (bind_ok hr4))
  have HF4 := Lib.hid (fit_step HF3.out hr4)
  have HZ4 := Lib.hid ((HZ3.out.kept (Mv.of_below (S := []) hv4) (by simp)).kept hm4 (by decide))
  have HS4 := Lib.hid hS4
  have HM4 := Lib.hid hM4
  clear hm4 hr4 hS4 hM4 hz hv4
  go_wp2
  refine Ph.at_end (by simp) ?_
  go_wp2
  refine bodyPost_end (results_none rfl _ _ _) rfl ?_
  exact .done HH4.out HV4.out HS4.out HM4.out

set_option maxHeartbeats 1000000 in
theorem c_fields_5 (col : Nat → Nat) (w : World) (s : σ) (x : Nat) (m : Mg) (hk : m.kind = 5) (hS : Λ.LS col w s) (hM : MsgAt col w x m) (hI : m.In) (hL : m.W.length ≤ 9223372036854775807 ∧ m.K.length ≤ 9223372036854775807) (hf : Λ.fit (fieldsT Λ.o m s).2) :
    Calls Try.prog 20 #[.iface Λ.lt Λ.lv, .pointer (some ⟨x, 0, none⟩)] w (LPost Λ.LS [1, 2, 3, 4, 5] col w (fieldsT Λ.o m s) (fun y c w' => MsgAt c w' x y) (Kep x 2 30 16)) := by
  have hm_ := Λ.mnum
  have he_ := Λ.enum
  have hn_ := Λ.nnum
  have hmt := Λ.mtext
  have het := Λ.etext
  have hnt := Λ.ntext
  have hmb := Λ.mbool
  have heb := Λ.ebool
  have hnb := Λ.nbool
  have hb : Below w.heap.size w (w.alloc (.cells #[.iface Λ.lt Λ.lv] 97)) := below_alloc (Below.refl _ _) _
  have HZ0 : Hid (Blk (paint col w 6) 6 (w.alloc (.cells #[.iface Λ.lt Λ.lv] 97)) w.heap.size #[.iface Λ.lt Λ.lv] 97) := Lib.hid ⟨hp_alloc_new _ _, paint_new (Nat.le_refl _)⟩
  have HH0 : Hid (Mv [1, 2, 3, 4, 5] col w (paint col w 6) (w.alloc (.cells #[.iface Λ.lt Λ.lv] 97))) := Lib.hid (Mv.new hb 6)
  have HS0 := Lib.hid (Λ.kept hS (Mv.new (S := []) hb 6) (by simp))
  have HM0 := Lib.hid (hM.kept (Mv.new (S := []) hb 6) (by simp) (by simp) (by simp))
  have HI := Lib.hid hI
  have HL := Lib.hid hL
  have hV0 := fields_5 Λ.o m hk
  rw [hV0] at hf
  have HF0 := Lib.hid hf
  have HV0 := Lib.hid (congrFun hV0 s)
  clear hf hS hM hI hL hb hV0
  generalize hz0 : w.heap.size = z at *
  generalize paint col w 6 = c0 at *
  go_enter Try.func20, Try.ntmps20
  go_upto_region 1 with fail
  generalize w.alloc (.cells #[.iface Λ.lt Λ.lv] 97) = w0 at *
  have hk0 : w0.cell? ⟨x, 0, none⟩ = some (.int .i64 m.kind) := HM0.out.c0
  have hz := hp_cell HZ0.out.hp 0
  simp only [List.getElem?_toArray, List.getElem?_cons_zero] at hz
  go_wp2_with fail
  refine (c_asked Λ c0 w0 _ x _ HS0.out HM0.out HI.out.tx HI.out.seq (fit_left (by intros; repeat (first | exact mono_ret _ | exact mono_fail _ | exact Λ.fit_num _ | exact Λ.fit_text _ _ | exact Λ.fit_bool _ | exact mono_value Λ _ _ | exact mono_pin Λ _ _ | exact mono_asked Λ _ | exact mono_list Λ (mono_elem Λ) _ _ | exact mono_list Λ (mono_key Λ) _ _ | (refine mono_bind ?_ fun _ => ?_) | split)) HF0.out)).mono ?_
  rintro e w1 ⟨c1, hm1, ⟨a1, hr1, rfl, hS1, hM1⟩ | ⟨er, hr1, h0, rfl, hE⟩⟩
  rotate_left
  · exact ⟨rfl, .fail (HH0.out.trans (hm1.sub (by simp))) (HV0.out.trans (bind_error hr1)) h0 hE⟩
  obtain ⟨⟨ta, tb, rfl⟩, hM1⟩ := hM1
  have HH1 := Lib.hid (HH0.out.trans (hm1.sub (by simp)))
  have HV1 := Lib.hid (HV0.out.trans (bind_ok hr1))
  have HF1 := Lib.hid (fit_step HF0.out hr1)
  have HZ1 := Lib.hid (HZ0.out.kept hm1 (by decide))
  have HS1 := Lib.hid hS1
  have HM1 := Lib.hid hM1
  clear hm1 hr1 hS1 hM1 hz
  go_wp2
  have hz := hp_cell HZ1.out.hp 0
  simp only [List.getElem?_toArray, List.getElem?_cons_zero] at hz
  refine Ph.region_at (by kernel_rfl) ?_
  refine Ph.at_quiet 7 (by kernel_rfl) ?_
  simp only [List.take_succ_cons, List.take_zero, List.drop_succ_cons, List.drop_zero]
  repeat ((first | (apply Ph.wpPh_g; (focus (intro wq hS0; have hbq := below_call (below_drew (Below.refl _ _)) hS0; have hzq := cell_below hbq hz; go_simp; first | exact rfl | exact ⟨rfl, Below.refl _ _⟩)))); simp only [Act.put, List.setIfInBounds_toArray, List.set_cons_zero, List.set_cons_succ])
  refine Ph.wpPh_nil ?_; intro v2 hSx
  have hv2 := below_call (below_drew (Below.refl _ _)) hSx
  clear hSx
  refine Ph.at_op rfl (by kernel_rfl) ?_
  go_wp2_with fail
  refine (f_key Λ c1 v2 _ x _ (Λ.kept HS1.out (Mv.of_below (S := []) hv2) (by simp)) (HM1.out.below hv2) (fit_left (by intros; repeat (first | exact mono_ret _ | exact mono_fail _ | exact Λ.fit_num _ | exact Λ.fit_text _ _ | exact Λ.fit_bool _ | exact mono_value Λ _ _ | exact mono_pin Λ _ _ | exact mono_asked Λ _ | exact mono_list Λ (mono_elem Λ) _ _ | exact mono_list Λ (mono_key Λ) _ _ | (refine mono_bind ?_ fun _ => ?_) | split)) HF1.out)).mono ?_
  rintro e w2 ⟨c2, hm2, ⟨a2, hr2, rfl, hS2, hM2⟩ | ⟨er, hr2, h0, rfl, hE⟩⟩
  rotate_left
  · exact ⟨rfl, .fail ((HH1.out.after_below hv2).trans (hm2.sub (by simp))) (HV1.out.trans (bind_error hr2)) h0 hE⟩
  have HH2 := Lib.hid ((HH1.out.after_below hv2).trans (hm2.sub (by simp)))
  have HV2 := Lib.hid (HV1.out.trans (bind_ok hr2))
  have HF2 := Lib.hid (fit_step HF1.out hr2)
  have HZ2 := Lib.hid ((HZ1.out.kept (Mv.of_below (S := []) hv2) (by simp)).kept hm2 (by decide))
  have HS2 := Lib.hid hS2
  have HM2 := Lib.hid hM2
  clear hm2 hr2 hS2 hM2 hz hv2
  go_wp2
  refine Ph.at_end (by simp) ?_
  go_wp2
  have hz := hp_cell HZ2.out.hp 0
  simp only [List.getElem?_toArray, List.getElem?_cons_zero] at hz
  refine Ph.region_at (by kernel_rfl) ?_
  refine Ph.at_quiet 4 (by kernel_rfl) ?_
  simp only [List.take_succ_cons, List.take_zero, List.drop_succ_cons, List.drop_zero]
  repeat ((first | (apply Ph.wpPh_g; (focus (intro wq hS0; have hbq := below_call (below_drew (Below.refl _ _)) hS0; have hzq := cell_below hbq hz; go_simp; first | exact rfl | exact ⟨rfl, Below.refl _ _⟩)))); simp only [Act.put, List.setIfInBounds_toArray, List.set_cons_zero, List.set_cons_succ])
  refine Ph.wpPh_nil ?_; intro v3 hSx
  have hv3 := below_call (below_drew (Below.refl _ _)) hSx
  clear hSx
  refine Ph.at_op rfl (by kernel_rfl) ?_
  go_wp2_with fail
  refine (f_pin Λ c2 v3 _ x _ (Λ.kept HS2.out (Mv.of_below (S := []) hv3) (by simp)) (HM2.out.below hv3) HI.out.lo HI.out.hi (fit_left (by intros; repeat (first | exact mono_ret _ | exact mono_fail _ | exact Λ.fit_num _ | exact Λ.fit_text _ _ | exact Λ.fit_bool _ | exact mono_value Λ _ _ | exact mono_pin Λ _ _ | exact mono_asked Λ _ | exact mono_list Λ (mono_elem Λ) _ _ | exact mono_list Λ (mono_key Λ) _ _ | (refine mono_bind ?_ fun _ => ?_) | split)) HF2.out)).mono ?_
  rintro e w3 ⟨c3, hm3, ⟨a3, hr3, rfl, hS3, hM3⟩ | ⟨er, hr3, h0, rfl, hE⟩⟩
  rotate_left
  · exact ⟨rfl, .fail ((HH2.out.after_below hv3).trans (hm3.sub (by simp))) (HV2.out.trans (bind_error hr3)) h0 hE⟩
  have HH3 := Lib.hid ((HH2.out.after_below hv3).trans (hm3.sub (by simp)))
  have HV3 := Lib.hid (HV2.out.trans (bind_ok hr3))
  have HF3 := Lib.hid (fit_step HF2.out hr3)
  have HZ3 := Lib.hid ((HZ2.out.kept (Mv.of_below (S := []) hv3) (by simp)).kept hm3 (by decide))
  have HS3 := Lib.hid hS3
  have HM3 := Lib.hid hM3
  clear hm3 hr3 hS3 hM3 hz hv3
  go_wp2
  refine Ph.at_end (by simp) ?_
  go_wp2
  refine bodyPost_end (results_none rfl _ _ _) rfl ?_
  exact .done HH3.out HV3.out HS3.out HM3.out

set_option maxHeartbeats 1000000 in
theorem c_fields_4 (col : Nat → Nat) (w : World) (s : σ) (x : Nat) (m : Mg) (hk : m.kind = 4) (hS : Λ.LS col w s) (hM : MsgAt col w x m) (hI : m.In) (hL : m.W.length ≤ 9223372036854775807 ∧ m.K.length ≤ 9223372036854775807) (hf : Λ.fit (fieldsT Λ.o m s).2) :
    Calls Try.prog 20 #[.iface Λ.lt Λ.lv, .pointer (some ⟨x, 0, none⟩)] w (LPost Λ.LS [1, 2, 3, 4, 5] col w (fieldsT Λ.o m s) (fun y c w' => MsgAt c w' x y) (Kep x 2 30 16)) := by
  have hm_ := Λ.mnum
  have he_ := Λ.enum
  have hn_ := Λ.nnum
  have hmt := Λ.mtext
  have het := Λ.etext
  have hnt := Λ.ntext
  have hmb := Λ.mbool
  have heb := Λ.ebool
  have hnb := Λ.nbool
  have hb : Below w.heap.size w (w.alloc (.cells #[.iface Λ.lt Λ.lv] 97)) := below_alloc (Below.refl _ _) _
  have HZ0 : Hid (Blk (paint col w 6) 6 (w.alloc (.cells #[.iface Λ.lt Λ.lv] 97)) w.heap.size #[.iface Λ.lt Λ.lv] 97) := Lib.hid ⟨hp_alloc_new _ _, paint_new (Nat.le_refl _)⟩
  have HH0 : Hid (Mv [1, 2, 3, 4, 5] col w (paint col w 6) (w.alloc (.cells #[.iface Λ.lt Λ.lv] 97))) := Lib.hid (Mv.new hb 6)
  have HS0 := Lib.hid (Λ.kept hS (Mv.new (S := []) hb 6) (by simp))
  have HM0 := Lib.hid (hM.kept (Mv.new (S := []) hb 6) (by simp) (by simp) (by simp))
  have HI := Lib.hid hI
  have HL := Lib.hid hL
  have hV0 := fields_4 Λ.o m hk
  rw [hV0] at hf
  have HF0 := Lib.hid hf
  have HV0 := Lib.hid (congrFun hV0 s)
  clear hf hS hM hI hL hb hV0
  generalize hz0 : w.heap.size = z at *
  generalize paint col w 6 = c0 at *
  go_enter Try.func20, Try.ntmps20
  go_upto_region 1 with fail
  generalize w.alloc (.cells #[.iface Λ.lt Λ.lv] 97) = w0 at *
  have hk0 : w0.cell? ⟨x, 0, none⟩ = some (.int .i64 m.kind) := HM0.out.c0
  have hz := hp_cell HZ0.out.hp 0
  simp only [List.getElem?_toArray, List.getElem?_cons_zero] at hz
  go_wp2_with fail
  refine (c_asked Λ c0 w0 _ x _ HS0.out HM0.out HI.out.tx HI.out.seq (fit_left (by intros; repeat (first | exact mono_ret _ | exact mono_fail _ | exact Λ.fit_num _ | exact Λ.fit_text _ _ | exact Λ.fit_bool _ | exact mono_value Λ _ _ | exact mono_pin Λ _ _ | exact mono_asked Λ _ | exact mono_list Λ (mono_elem Λ) _ _ | exact mono_list Λ (mono_key Λ) _ _ | (refine mono_bind ?_ fun _ => ?_) | split)) HF0.out)).mono ?_
  rintro e w1 ⟨c1, hm1, ⟨a1, hr1, rfl, hS1, hM1⟩ | ⟨er, hr1, h0, rfl, hE⟩⟩
  rotate_left
  · exact ⟨rfl, .fail (HH0.out.trans (hm1.sub (by simp))) (HV0.out.trans (bind_error hr1)) h0 hE⟩
  obtain ⟨⟨ta, tb, rfl⟩, hM1⟩ := hM1
  have HH1 := Lib.hid (HH0.out.trans (hm1.sub (by simp)))
  have HV1 := Lib.hid (HV0.out.trans (bind_ok hr1))
  have HF1 := Lib.hid (fit_step HF0.out hr1)
  have HZ1 := Lib.hid (HZ0.out.kept hm1 (by decide))
  have HS1 := Lib.hid hS1
  have HM1 := Lib.hid hM1
  clear hm1 hr1 hS1 hM1 hz
  go_wp2
  have hz := hp_cell HZ1.out.hp 0
  simp only [List.getElem?_toArray, List.getElem?_cons_zero] at hz
  refine Ph.region_at (by kernel_rfl) ?_
  refine Ph.at_quiet 7 (by kernel_rfl) ?_
  simp only [List.take_succ_cons, List.take_zero, List.drop_succ_cons, List.drop_zero]
  repeat ((first | (apply Ph.wpPh_g; (focus (intro wq hS0; have hbq := below_call (below_drew (Below.refl _ _)) hS0; have hzq := cell_below hbq hz; go_simp; first | exact rfl | exact ⟨rfl, Below.refl _ _⟩)))); simp only [Act.put, List.setIfInBounds_toArray, List.set_cons_zero, List.set_cons_succ])
  refine Ph.wpPh_nil ?_; intro v2 hSx
  have hv2 := below_call (below_drew (Below.refl _ _)) hSx
  clear hSx
  refine Ph.at_op rfl (by kernel_rfl) ?_
  go_wp2_with fail
  refine (f_hit Λ c1 v2 _ x _ (Λ.kept HS1.out (Mv.of_below (S := []) hv2) (by simp)) (HM1.out.below hv2) (fit_left (by intros; repeat (first | exact mono_ret _ | exact mono_fail _ | exact Λ.fit_num _ | exact Λ.fit_text _ _ | exact Λ.fit_bool _ | exact mono_value Λ _ _ | exact mono_pin Λ _ _ | exact mono_asked Λ _ | exact mono_list Λ (mono_elem Λ) _ _ | exact mono_list Λ (mono_key Λ) _ _ | (refine mono_bind ?_ fun _ => ?_) | split)) HF1.out)).mono ?_
  rintro e w2 ⟨c2, hm2, ⟨a2, hr2, rfl, hS2, hM2⟩ | ⟨er, hr2, h0, rfl, hE⟩⟩
  rotate_left
  · exact ⟨rfl, .fail ((HH1.out.after_below hv2).trans (hm2.sub (by simp))) (HV1.out.trans (bind_error hr2)) h0 hE⟩
  have HH2 := Lib.hid ((HH1.out.after_below hv2).trans (hm2.sub (by simp)))
  have HV2 := Lib.hid (HV1.out.trans (bind_ok hr2))
  have HF2 := Lib.hid (fit_step HF1.out hr2)
  have HZ2 := Lib.hid ((HZ1.out.kept (Mv.of_below (S := []) hv2) (by simp)).kept hm2 (by decide))
  have HS2 := Lib.hid hS2
  have HM2 := Lib.hid hM2
  clear hm2 hr2 hS2 hM2 hz hv2
  have hk2 : w2.cell? ⟨x, 11, none⟩ = some (.bool a2) := HM2.out.c11
  cases a2
  · have hh := HV2.out
    rw [if_neg (by decide)] at hh
    have HV2 := Lib.hid hh
    clear hh
    have hh := HF2.out
    rw [if_neg (by decide)] at hh
    have HF2 := Lib.hid hh
    clear hh
    go_wp2
    refine Ph.at_end (by simp) ?_
    go_wp2
    refine bodyPost_end (results_none rfl _ _ _) rfl ?_
    exact .done HH2.out HV2.out HS2.out HM2.out
  · have hh := HV2.out
    rw [if_pos rfl] at hh
    have HV2 := Lib.hid hh
    clear hh
    have hh := HF2.out
    rw [if_pos rfl] at hh
    have HF2 := Lib.hid hh
    clear hh
    go_wp2
    refine Ph.at_end (by simp) ?_
    go_wp2
    have hz := hp_cell HZ2.out.hp 0
    simp only [List.getElem?_toArray, List.getElem?_cons_zero] at hz
    refine Ph.region_at (by kernel_rfl) ?_
    refine Ph.at_quiet 4 (by kernel_rfl) ?_
    simp only [List.take_succ_cons, List.take_zero, List.drop_succ_cons, List.drop_zero]
    repeat ((first | (apply Ph.wpPh_g; (focus (intro wq hS0; have hbq := below_call (below_drew (Below.refl _ _)) hS0; have hzq := cell_below hbq hz; go_simp; first | exact rfl | exact ⟨rfl, Below.refl _ _⟩)))); simp only [Act.put, List.setIfInBounds_toArray, List.set_cons_zero, List.set_cons_succ])
    refine Ph.wpPh_nil ?_; intro v3 hSx
    have hv3 := below_call (below_drew (Below.refl _ _)) hSx
    clear hSx
    refine Ph.at_op rfl (by kernel_rfl) ?_
    go_wp2_with fail
    refine (f_value Λ c2 v3 _ x _ (Λ.kept HS2.out (Mv.of_below (S := []) hv3) (by simp)) (HM2.out.below hv3) (fit_left (by intros; repeat (first | exact mono_ret _ | exact mono_fail _ | exact Λ.fit_num _ | exact Λ.fit_text _ _ | exact Λ.fit_bool _ | exact mono_value Λ _ _ | exact mono_pin Λ _ _ | exact mono_asked Λ _ | exact mono_list Λ (mono_elem Λ) _ _ | exact mono_list Λ (mono_key Λ) _ _ | (refine mono_bind ?_ fun _ => ?_) | split)) HF2.out)).mono ?_
    rintro e w3 ⟨c3, hm3, ⟨a3, hr3, rfl, hS3, hM3⟩ | ⟨er, hr3, h0, rfl, hE⟩⟩
    rotate_left
    · exact ⟨rfl, .fail ((HH2.out.after_below hv3).trans (hm3.sub (by simp))) (HV2.out.trans (bind_error hr3)) h0 hE⟩
    have HH3 := Lib.hid ((HH2.out.after_below hv3).trans (hm3.sub (by simp)))
    have HV3 := Lib.hid (HV2.out.trans (bind_ok hr3))
    have HF3 := Lib.hid (fit_step HF2.out hr3)
    have HZ3 := Lib.hid ((HZ2.out.kept (Mv.of_below (S := []) hv3) (by simp)).kept hm3 (by decide))
    have HS3 := Lib.hid hS3
    have HM3 := Lib.hid hM3
    clear hm3 hr3 hS3 hM3 hz hv3
    go_wp2
    refine Ph.at_end (by simp) ?_
    go_wp2
    have hz := hp_cell HZ3.out.hp 0
    simp only [List.getElem?_toArray, List.getElem?_cons_zero] at hz
    refine Ph.region_at (by kernel_rfl) ?_
    refine Ph.at_quiet 4 (by kernel_rfl) ?_
    simp only [List.take_succ_cons, List.take_zero, List.drop_succ_cons, List.drop_zero]
    repeat ((first | (apply Ph.wpPh_g; (focus (intro wq hS0; have hbq := below_call (below_drew (Below.refl _ _)) hS0; have hzq := cell_below hbq hz; go_simp; first | exact rfl | exact ⟨rfl, Below.refl _ _⟩)))); simp only [Act.put, List.setIfInBounds_toArray, List.set_cons_zero, List.set_cons_succ])
    refine Ph.wpPh_nil ?_; intro v4 hSx
    have hv4 := below_call (below_drew (Below.refl _ _)) hSx
    clear hSx
    refine Ph.at_op rfl (by kernel_rfl) ?_
    go_wp2_with fail
    refine (f_pin Λ c3 v4 _ x _ (Λ.kept HS3.out (Mv.of_below (S := []) hv4) (by simp)) (HM3.out.below hv4) HI.out.lo HI.out.hi (fit_left (by intros; repeat (first | exact mono_ret _ | exact mono_fail _ | exact Λ.fit_num _ | exact Λ.fit_text _ _ | exact Λ.fit_bool _ | exact mono_value Λ _ _ | exact mono_pin Λ _ _ | exact mono_asked Λ _ | exact mono_list Λ (mono_elem Λ) _ _ | exact mono_list Λ (mono_key Λ) _ _ | (refine mono_bind ?_ fun _ => ?_) | split)) HF3.out)).mono ?_
    rintro e w4 ⟨c4, hm4, ⟨a4, hr4, rfl, hS4, hM4⟩ | ⟨er, hr4, h0, rfl, hE⟩⟩
    rotate_left
    · exact ⟨rfl, .fail ((HH3.out.after_below hv4).trans (hm4.sub (by simp))) (HV3.out.trans (bind_error hr4)) h0 hE⟩
    have HH4 := Lib.hid ((HH3.out.after_below hv4).trans (hm4.sub (by simp)))
    have HV4 := Lib.hid (HV3.out.trans (bind_ok hr4))
    have HF4 := Lib.hid (fit_step HF3.out hr4)
    have HZ4 := Lib.hid ((HZ3.out.kept (Mv.of_below (S := []) hv4) (by simp)).kept hm4 (by decide))
    have HS4 := Lib.hid hS4
    have HM4 := Lib.hid hM4
    clear hm4 hr4 hS4 hM4 hz hv4
    go_wp2
    refine Ph.at_end (by simp) ?_
    go_wp2
    refine bodyPost_end (results_none rfl _ _ _) rfl ?_
    exact .done HH4.out HV4.out HS4.out HM4.out

set_option maxHeartbeats 1000000 in
theorem c_fields_6 (col : Nat → Nat) (w : World) (s : σ) (x : Nat) (m : Mg) (hk : m.kind = 6) (hS : Λ.LS col w s) (hM : MsgAt col w x m) (hI : m.In) (hL : m.W.length ≤ 9223372036854775807 ∧ m.K.length ≤ 9223372036854775807) (hf : Λ.fit (fieldsT Λ.o m s).2) :
    Calls Try.prog 20 #[.iface Λ.lt Λ.lv, .pointer (some ⟨x, 0, none⟩)] w (LPost Λ.LS [1, 2, 3, 4, 5] col w (fieldsT Λ.o m s) (fun y c w' => MsgAt c w' x y) (Kep x 2 30 16)) := by
  have hm_ := Λ.mnum
  have he_ := Λ.enum
  have hn_ := Λ.nnum
  have hmt := Λ.mtext
  have het := Λ.etext
  have hnt := Λ.ntext
  have hmb := Λ.mbool
  have heb := Λ.ebool
  have hnb := Λ.nbool
  have hb : Below w.heap.size w (w.alloc (.cells #[.iface Λ.lt Λ.lv] 97)) := below_alloc (Below.refl _ _) _
  have HZ0 : Hid (Blk (paint col w 6) 6 (w.alloc (.cells #[.iface Λ.lt Λ.lv] 97)) w.heap.size #[.iface Λ.lt Λ.lv] 97) := Lib.hid ⟨hp_alloc_new _ _, paint_new (Nat.le_refl _)⟩
  have HH0 : Hid (Mv [1, 2, 3, 4, 5] col w (paint col w 6) (w.alloc (.cells #[.iface Λ.lt Λ.lv] 97))) := Lib.hid (Mv.new hb 6)
  have HS0 := Lib.hid (Λ.kept hS (Mv.new (S := []) hb 6) (by simp))
  have HM0 := Lib.hid (hM.kept (Mv.new (S := []) hb 6) (by simp) (by simp) (by simp))
  have HI := Lib.hid hI
  have HL := Lib.hid hL
  have hV0 := fields_6 Λ.o m hk
  rw [hV0] at hf
  have HF0 := Lib.hid hf
  have HV0 := Lib.hid (congrFun hV0 s)
  clear hf hS hM hI hL hb hV0
  generalize hz0 : w.heap.size = z at *
  generalize paint col w 6 = c0 at *
  go_enter Try.func20, Try.ntmps20
  go_upto_region 1 with fail
  generalize w.alloc (.cells #[.iface Λ.lt Λ.lv] 97) = w0 at *
  have hk0 : w0.cell? ⟨x, 0, none⟩ = some (.int .i64 m.kind) := HM0.out.c0
  have hz := hp_cell HZ0.out.hp 0
  simp only [List.getElem?_toArray, List.getElem?_cons_zero] at hz
  go_wp2_with fail
  refine (c_asked Λ c0 w0 _ x _ HS0.out HM0.out HI.out.tx HI.out.seq (fit_left (by intros; repeat (first | exact mono_ret _ | exact mono_fail _ | exact Λ.fit_num _ | exact Λ.fit_text _ _ | exact Λ.fit_bool _ | exact mono_value Λ _ _ | exact mono_pin Λ _ _ | exact mono_asked Λ _ | exact mono_list Λ (mono_elem Λ) _ _ | exact mono_list Λ (mono_key Λ) _ _ | (refine mono_bind ?_ fun _ => ?_) | split)) HF0.out)).mono ?_
  rintro e w1 ⟨c1, hm1, ⟨a1, hr1, rfl, hS1, hM1⟩ | ⟨er, hr1, h0, rfl, hE⟩⟩
  rotate_left
  · exact ⟨rfl, .fail (HH0.out.trans (hm1.sub (by simp))) (HV0.out.trans (bind_error hr1)) h0 hE⟩
  obtain ⟨⟨ta, tb, rfl⟩, hM1⟩ := hM1
  have HH1 := Lib.hid (HH0.out.trans (hm1.sub (by simp)))
  have HV1 := Lib.hid (HV0.out.trans (bind_ok hr1))
  have HF1 := Lib.hid (fit_step HF0.out hr1)
  have HZ1 := Lib.hid (HZ0.out.kept hm1 (by decide))
  have HS1 := Lib.hid hS1
  have HM1 := Lib.hid hM1
  clear hm1 hr1 hS1 hM1 hz
  go_wp2
  have hz := hp_cell HZ1.out.hp 0
  simp only [List.getElem?_toArray, List.getElem?_cons_zero] at hz
  refine Ph.region_at (by kernel_rfl) ?_
  refine Ph.at_quiet 4 (by kernel_rfl) ?_
  simp only [List.take_succ_cons, List.take_zero, List.drop_succ_cons, List.drop_zero]
  repeat ((first | (apply Ph.wpPh_g; (focus (intro wq hS0; have hbq := below_call (below_drew (Below.refl _ _)) hS0; have hzq := cell_below hbq hz; go_simp; first | exact rfl | exact ⟨rfl, Below.refl _ _⟩)))); simp only [Act.put, List.setIfInBounds_toArray, List.set_cons_zero, List.set_cons_succ])
  refine Ph.wpPh_nil ?_; intro v2 hSx
  have hv2 := below_call (below_drew (Below.refl _ _)) hSx
  clear hSx
  refine Ph.at_op rfl (by kernel_rfl) ?_
  go_wp2_with fail
  refine (f_err Λ c1 v2 _ x _ (Λ.kept HS1.out (Mv.of_below (S := []) hv2) (by simp)) (HM1.out.below hv2) HI.out.err (fit_left (by intros; repeat (first | exact mono_ret _ | exact mono_fail _ | exact Λ.fit_num _ | exact Λ.fit_text _ _ | exact Λ.fit_bool _ | exact mono_value Λ _ _ | exact mono_pin Λ _ _ | exact mono_asked Λ _ | exact mono_list Λ (mono_elem Λ) _ _ | exact mono_list Λ (mono_key Λ) _ _ | (refine mono_bind ?_ fun _ => ?_) | split)) HF1.out)).mono ?_
  rintro e w2 ⟨c2, hm2, ⟨a2, hr2, rfl, hS2, hM2⟩ | ⟨er, hr2, h0, rfl, hE⟩⟩
  rotate_left
  · exact ⟨rfl, .fail ((HH1.out.after_below hv2).trans (hm2.sub (by simp))) (HV1.out.trans (bind_error hr2)) h0 hE⟩
  have HH2 := Lib.hid ((HH1.out.after_below hv2).trans (hm2.sub (by simp)))
  have HV2 := Lib.hid (HV1.out.trans (bind_ok hr2))
  have HF2 := Lib.hid (fit_step HF1.out hr2)
  have HZ2 := Lib.hid ((HZ1.out.kept (Mv.of_below (S := []) hv2) (by simp)).kept hm2 (by decide))
  have HS2 := Lib.hid hS2
  have HM2 := Lib.hid hM2
  clear hm2 hr2 hS2 hM2 hz hv2
  have hk2 : w2.cell? ⟨x, 12, none⟩ = some (.int .i64 a2) := HM2.out.c12
  by_cases he0 : a2 = 0
  · have hh := HV2.out
    rw [if_pos he0] at hh
    have HV2 := Lib.hid hh
    clear hh
    have hh := HF2.out
    rw [if_pos he0] at hh
    have HF2 := Lib.hid hh
    clear hh
    subst he0
    go_wp2
    refine Ph.at_end (by simp) ?_
    go_wp2
    have hz := hp_cell HZ2.out.hp 0
    simp only [List.getElem?_toArray, List.getElem?_cons_zero] at hz
    refine Ph.region_at (by kernel_rfl) ?_
    refine Ph.at_quiet 4 (by kernel_rfl) ?_
    simp only [List.take_succ_cons, List.take_zero, List.drop_succ_cons, List.drop_zero]
    repeat ((first | (apply Ph.wpPh_g; (focus (intro wq hS0; have hbq := below_call (below_drew (Below.refl _ _)) hS0; have hzq := cell_below hbq hz; go_simp; first | exact rfl | exact ⟨rfl, Below.refl _ _⟩)))); simp only [Act.put, List.setIfInBounds_toArray, List.set_cons_zero, List.set_cons_succ])
    refine Ph.wpPh_nil ?_; intro v3 hSx
    have hv3 := below_call (below_drew (Below.refl _ _)) hSx
    clear hSx
    refine Ph.at_op rfl (by kernel_rfl) ?_
    go_wp2_with fail
    refine (f_value Λ c2 v3 _ x _ (Λ.kept HS2.out (Mv.of_below (S := []) hv3) (by simp)) (HM2.out.below hv3) (fit_left (by intros; repeat (first | exact mono_ret _ | exact mono_fail _ | exact Λ.fit_num _ | exact Λ.fit_text _ _ | exact Λ.fit_bool _ | exact mono_value Λ _ _ | exact mono_pin Λ _ _ | exact mono_asked Λ _ | exact mono_list Λ (mono_elem Λ) _ _ | exact mono_list Λ (mono_key Λ) _ _ | (refine mono_bind ?_ fun _ => ?_) | split)) HF2.out)).mono ?_
    rintro e w3 ⟨c3, hm3, ⟨a3, hr3, rfl, hS3, hM3⟩ | ⟨er, hr3, h0, rfl, hE⟩⟩
    rotate_left
    · exact ⟨rfl, .fail ((HH2.out.after_below hv3).trans (hm3.sub (by simp))) (HV2.out.trans (bind_error hr3)) h0 hE⟩
    have HH3 := Lib.hid ((HH2.out.after_below hv3).trans (hm3.sub (by simp)))
    have HV3 := Lib.hid (HV2.out.trans (bind_ok hr3))
    have HF3 := Lib.hid (fit_step HF2.out hr3)
    have HZ3 := Lib.hid ((HZ2.out.kept (Mv.of_below (S := []) hv3) (by simp)).kept hm3 (by decide))
    have HS3 := Lib.hid hS3
    have HM3 := Lib.hid hM3
    clear hm3 hr3 hS3 hM3 hz hv3
    go_wp2
    refine Ph.at_end (by simp) ?_
    go_wp2
    have hz := hp_cell HZ3.out.hp 0
    simp only [List.getElem?_toArray, List.getElem?_cons_zero] at hz
    refine Ph.region_at (by kernel_rfl) ?_
    refine Ph.at_quiet 4 (by kernel_rfl) ?_
    simp only [List.take_succ_cons, List.take_zero, List.drop_succ_cons, List.drop_zero]
    repeat ((first | (apply Ph.wpPh_g; (focus (intro wq hS0; have hbq := below_call (below_drew (Below.refl _ _)) hS0; have hzq := cell_below hbq hz; go_simp; first | exact rfl | exact ⟨rfl, Below.refl _ _⟩)))); simp only [Act.put, List.setIfInBounds_toArray, List.set_cons_zero, List.set_cons_succ])
    refine Ph.wpPh_nil ?_; intro v4 hSx
    have hv4 := below_call (below_drew (Below.refl _ _)) hSx
    clear hSx
    refine Ph.at_op rfl (by kernel_rfl) ?_
    go_wp2_with fail
    refine (f_pin Λ c3 v4 _ x _ (Λ.kept HS3.out (Mv.of_below (S := []) hv4) (by simp)) (HM3.out.below hv4) HI.out.lo HI.out.hi (fit_left (by intros; repeat (first | exact mono_ret _ | exact mono_fail _ | exact Λ.fit_num _ | exact Λ.fit_text _ _ | exact Λ.fit_bool _ | exact mono_value Λ _ _ | exact mono_pin Λ _ _ | exact mono_asked Λ _ | exact mono_list Λ (mono_elem Λ) _ _ | exact mono_list Λ (mono_key Λ) _ _ | (refine mono_bind ?_ fun _ => ?_) | split)) HF3.out)).mono ?_
    rintro e w4 ⟨c4, hm4, ⟨a4, hr4, rfl, hS4, hM4⟩ | ⟨er, hr4, h0, rfl, hE⟩⟩
    rotate_left
    · exact ⟨rfl, .fail ((HH3.out.after_below hv4).trans (hm4.sub (by simp))) (HV3.out.trans (bind_error hr4)) h0 hE⟩
    have HH4 := Lib.hid ((HH3.out.after_below hv4).trans (hm4.sub (by simp)))
    have HV4 := Lib.hid (HV3.out.trans (bind_ok hr4))
    have HF4 := Lib.hid (fit_step HF3.out hr4)
    have HZ4 := Lib.hid ((HZ3.out.kept (Mv.of_below (S := []) hv4) (by simp)).kept hm4 (by decide))
    have HS4 := Lib.hid hS4
    have HM4 := Lib.hid hM4
    clear hm4 hr4 hS4 hM4 hz hv4
    go_wp2
    refine Ph.at_end (by simp) ?_
    go_wp2
    refine bodyPost_end (results_none rfl _ _ _) rfl ?_
    exact .done HH4.out HV4.out HS4.out HM4.out
  · have hh := HV2.out
    rw [if_neg he0] at hh
    have HV2 := Lib.hid hh
    clear hh
    have hh := HF2.out
    rw [if_neg he0] at hh
    have HF2 := Lib.hid hh
    clear hh
    have hb0 : (a2 == 0) = false := by simp; omega
    go_wp2
    refine Ph.at_end (by simp) ?_
    go_wp2
    refine bodyPost_end (results_none rfl _ _ _) rfl ?_
    exact .done HH2.out HV2.out HS2.out HM2.out

theorem c_fields_0 (col : Nat → Nat) (w : World) (s : σ) (x : Nat) (m : Mg) (h1 : ¬ m.kind = 1) (h2 : ¬ m.kind = 2) (h3 : ¬ m.kind = 3) (h4 : ¬ m.kind = 4) (h5 : ¬ m.kind = 5) (h6 : ¬ m.kind = 6) (hS : Λ.LS col w s) (hM : MsgAt col w x m) (hI : m.In) (hL : m.W.length ≤ 9223372036854775807 ∧ m.K.length ≤ 9223372036854775807) (hf : Λ.fit (fieldsT Λ.o m s).2) :
    Calls Try.prog 20 #[.iface Λ.lt Λ.lv, .pointer (some ⟨x, 0, none⟩)] w (LPost Λ.LS [1, 2, 3, 4, 5] col w (fieldsT Λ.o m s) (fun y c w' => MsgAt c w' x y) (Kep x 2 30 16)) := by
  rw [fields_0 Λ.o m h1 h2 h3 h4 h5 h6] at hf ⊢
  have hb : Below w.heap.size w (w.alloc (.cells #[.iface Λ.lt Λ.lv] 97)) := below_alloc (Below.refl _ _) _
  have hz := hp_cell (hp_alloc_new w (.cells #[.iface Λ.lt Λ.lv] 97)) 0
  have hk0 := cell_below hb hM.c0
  have HC := Lib.hid (c_told Λ (paint col w 6) _ s x m (Λ.kept hS (Mv.new (S := []) hb 6) (by simp)) (hM.kept (Mv.new (S := []) hb 6) (by simp) (by simp) (by simp)) hI hL hf)
  have HH : Hid (Mv [1, 2, 3, 4, 5] col w (paint col w 6) (w.alloc (.cells #[.iface Λ.lt Λ.lv] 97))) := Lib.hid (Mv.new hb 6)
  simp only [List.getElem?_toArray, List.getElem?_cons_zero] at hz
  clear hS hM hI hL hf hb
  generalize hz0 : w.heap.size = z at *
  generalize paint col w 6 = c0 at *
  go_enter Try.func20, Try.ntmps20
  go_upto_region 1 with fail
  generalize w.alloc (.cells #[.iface Λ.lt Λ.lv] 97) = w0 at *
  go_wp2_with fail
  refine HC.out.mono ?_
  intro e w1 h
  have h' := LPost.pre HH.out h
  obtain ⟨c1, hm1, ⟨a1, hr1, rfl, hS1, hM1⟩ | ⟨er, hr1, h0, rfl, hE⟩⟩ := h'
  · go_wp2
    refine bodyPost_end (results_none rfl _ _ _) rfl ?_
    exact .done hm1 (pair_ok hr1) hS1 hM1
  · exact ⟨rfl, .fail hm1 (pair_er hr1) h0 hE⟩
theorem c_fields (col : Nat → Nat) (w : World) (s : σ) (x : Nat) (m : Mg) (hS : Λ.LS col w s) (hM : MsgAt col w x m) (hI : m.In) (hL : m.W.length ≤ 9223372036854775807 ∧ m.K.length ≤ 9223372036854775807) (hf : Λ.fit (fieldsT Λ.o m s).2) :
    Calls Try.prog 20 #[.iface Λ.lt Λ.lv, .pointer (some ⟨x, 0, none⟩)] w (LPost Λ.LS [1, 2, 3, 4, 5] col w (fieldsT Λ.o m s) (fun y c w' => MsgAt c w' x y) (Kep x 2 30 16)) := by
  by_cases h1 : m.kind = 1
  · exact c_fields_1 Λ col w s x m h1 hS hM hI hL hf
  by_cases h2 : m.kind = 2
  · exact c_fields_2 Λ col w s x m h2 hS hM hI hL hf
  by_cases h3 : m.kind = 3
  · exact c_fields_3 Λ col w s x m h3 hS hM hI hL hf
  by_cases h4 : m.kind = 4
  · exact c_fields_4 Λ col w s x m h4 hS hM hI hL hf
  by_cases h5 : m.kind = 5
  · exact c_fields_5 Λ col w s x m h5 hS hM hI hL hf
  by_cases h6 : m.kind = 6
  · exact c_fields_6 Λ col w s x m h6 hS hM hI hL hf
  exact c_fields_0 Λ col w s x m h1 h2 h3 h4 h5 h6 hS hM hI hL hf
end

end Go.Proofs.Ytiklpifaaogcpaa
