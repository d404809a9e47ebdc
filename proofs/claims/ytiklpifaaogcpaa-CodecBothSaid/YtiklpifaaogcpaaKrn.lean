/- The reference's num, pin, value. -/
import Derived.Test.YtiklpifaaogcpaaKn2
import Derived.Test.YtiklpifaaogcpaaKz
import Derived.Test.YtiklpifaaogcpaaWm
import Derived.WalkKit
import Derived.WalkLawsBesides
import Derived.WalkSpells
import Derived.Below
import Derived.Deep.RegionHeld3
import Derived.Deep.QuietTactic
import Derived.BigQuiet
import Derived.Deep.DeepCutAuto
import Derived.Deep.DeepMust
import Derived.KernelRfl
import Derived.Lib.Hide
import Derived.Outline
import Derived.RegionTactic
import Derived.StillTailTactics
import Derived.Laws.IdiomStrings
import Derived.Handy
namespace Go.Proofs.Ytiklpifaaogcpaa
open Go.RowKit Go.Cl Go.Wr Go.Kc
set_option maxRecDepth 100000
set_option linter.unusedVariables false
set_option linter.unusedSimpArgs false


theorem ba2 (a b : List UInt8) : (⟨a.toArray⟩ : ByteArray) ++ ⟨b.toArray⟩ = ⟨(a ++ b).toArray⟩ := by
  apply ByteArray.ext
  apply Array.toList_inj.1
  simp [ByteArray.data_append]
theorem ba_sz (a : List UInt8) : (⟨a.toArray⟩ : ByteArray).size = a.length := by simp [ByteArray.size]
theorem rtxt_le {d : ByteArray} {k : Nat} (hd : d.size ≤ k) (hk : k ≤ 100000) : (txt d.data.toList).length ≤ k + 10 := by
  have h2 : d.data.toList.length = d.size := by simp
  have h1 := encN_le (n := (d.data.toList.length : Int)) ⟨by omega, by omega⟩
  unfold txt
  rw [List.length_append]
  unfold encN at h1
  omega
theorem c_rnum (n : Int) (h : I64 n) (w : World) : Calls Try.prog 22 #[.int .i64 n] w fun e w' => e = .returned (.string ⟨(encN n).toArray⟩) ∧ Below w.heap.size w w' := by
  have HN := Lib.hid (fun W => ref_num W n h.1 h.2)
  clear h
  go_enter Try.func22, Try.ntmps22
  go_wp2_with fail
  refine (HN.out _).mono ?_; rintro e w1 ⟨rfl, hb⟩
  go_wp2
  go_ret
  exact ⟨rfl, hb⟩

theorem c_rpin (lo hi : Int) (h1 : I64 lo) (h2 : I64 hi) (w : World) : Calls Try.prog 25 #[.agg #[.int .i64 lo, .int .i64 hi]] w fun e w' => e = .returned (.string ⟨(encP lo hi).toArray⟩) ∧ Below w.heap.size w w' := by
  have hb0 : Below w.heap.size w (w.alloc (.cells #[.int .i64 lo, .int .i64 hi] 23)) := below_alloc (Below.refl _ _) _
  have hz0 := hp_alloc_new w (.cells #[.int .i64 lo, .int .i64 hi] 23)
  obtain ⟨P, hP⟩ : ∃ P : ByteArray, P = ⟨(encN lo).toArray⟩ := ⟨_, rfl⟩
  obtain ⟨Q, hQ⟩ : ∃ P : ByteArray, P = ⟨(encN hi).toArray⟩ := ⟨_, rfl⟩
  have HL : Hid (∀ W', Calls Try.prog 23 #[.int .i64 lo] W' fun e w' => e = .returned (.string P) ∧ Below W'.heap.size W' w') := Lib.hid (fun W' => by rw [hP]; exact ref_num W' lo h1.1 h1.2)
  have HH : Hid (∀ W', Calls Try.prog 23 #[.int .i64 hi] W' fun e w' => e = .returned (.string Q) ∧ Below W'.heap.size W' w') := Lib.hid (fun W' => by rw [hQ]; exact ref_num W' hi h2.1 h2.2)
  have hs : ¬ 9223372036854775807 < P.size + Q.size := by
    have g1 := encN_le h1
    have g2 := encN_le h2
    rw [hP, hQ, ba_sz, ba_sz]; omega
  have HEQ : Hid (P ++ Q = ⟨(encP lo hi).toArray⟩) := Lib.hid (by rw [hP, hQ, ba2]; rfl)
  clear hP hQ h1 h2
  have hzd := hp_below (below_drew (Below.refl (w.alloc (.cells #[.int .i64 lo, .int .i64 hi] 23)).heap.size _)) hz0
  go_enter Try.func25, Try.ntmps25
  go_wp2
  refine Ph.region_at (by kernel_rfl) ?_
  refine Ph.at_quiet 8 (by kernel_rfl) ?_
  simp only [List.take_succ_cons, List.take_zero, List.drop_succ_cons, List.drop_zero]
  repeat ((first | (apply Ph.wpPh_g; (focus (intro w1 hS0; have hc := hp_cell (hp_below hS0 hzd); go_simp; first | exact rfl | exact ⟨rfl, Below.refl _ _⟩ | ((with_reducible refine (HL.out _).mono ?_); rintro e w2 ⟨rfl, hb⟩; exact ⟨rfl, hb⟩) | ((with_reducible refine (HH.out _).mono ?_); rintro e w2 ⟨rfl, hb⟩; exact ⟨rfl, hb⟩))))); simp only [Act.put, List.setIfInBounds_toArray, List.set_cons_zero, List.set_cons_succ])
  refine Ph.wpPh_nil ?_; intro w2 hS
  refine Ph.at_end (by simp) ?_
  go_wp2
  go_ret
  exact ⟨congrArg (fun v => Ending.returned (Value.string v)) HEQ.out, below_call hb0 (below_call (below_drew (Below.refl _ _)) hS)⟩
theorem c_rvalueF (data : ByteArray) (w : World) : Calls Try.prog 24 #[.agg #[.bool false, .string data]] w fun e w' => e = .returned (.string ⟨(encV false data).toArray⟩) ∧ Below w.heap.size w w' := by
  have hb0 : Below w.heap.size w (w.alloc (.cells #[.bool false, .string data] 25)) := below_alloc (Below.refl _ _) _
  have hz0 := hp_alloc_new w (.cells #[.bool false, .string data] 25)
  have HF := Lib.hid (fun W => ref_bool W false)
  have hc0 := hp_cell hz0
  go_enter Try.func24, Try.ntmps24
  go_wp2_with fail
  refine (HF.out _).mono ?_; rintro e w1 ⟨rfl, rfl⟩
  go_wp2
  go_ret
  exact ⟨rfl, hb0⟩

theorem c_rvalueT (data : ByteArray) (hd : data.size ≤ 256) (w : World) : Calls Try.prog 24 #[.agg #[.bool true, .string data]] w fun e w' => e = .returned (.string ⟨(encV true data).toArray⟩) ∧ Below w.heap.size w w' := by
  have hb0 : Below w.heap.size w (w.alloc (.cells #[.bool true, .string data] 25)) := below_alloc (Below.refl _ _) _
  have hz0 := hp_alloc_new w (.cells #[.bool true, .string data] 25)
  obtain ⟨P, hP⟩ : ∃ P : ByteArray, P = ⟨(bol true).toArray⟩ := ⟨_, rfl⟩
  obtain ⟨Q, hQ⟩ : ∃ P : ByteArray, P = ⟨(txt data.data.toList).toArray⟩ := ⟨_, rfl⟩
  have hl : (txt data.data.toList).length ≤ 266 := rtxt_le hd (by decide)
  have HL : Hid (∀ W', Calls Try.prog 27 #[.bool true] W' fun e w' => e = .returned (.string P) ∧ W' = w') := Lib.hid (fun W' => by rw [hP]; exact ref_bool W' true)
  have HH : Hid (∀ W', Calls Try.prog 26 #[.string data] W' fun e w' => e = .returned (.string Q) ∧ Below W'.heap.size W' w') := Lib.hid (fun W' => by rw [hQ]; exact ref_text W' data (Nat.le_trans hd (by decide)) (by omega))
  have hs : ¬ 9223372036854775807 < P.size + Q.size := by
    rw [hP, hQ, ba_sz, ba_sz]
    have : (bol true).length = 1 := rfl
    omega
  have HEQ : Hid (P ++ Q = ⟨(encV true data).toArray⟩) := Lib.hid (by rw [hP, hQ, ba2]; simp [encV])
  clear hP hQ hd hl
  have hzd := hp_below (below_drew (Below.refl (w.alloc (.cells #[.bool true, .string data] 25)).heap.size _)) hz0
  have hc0 := hp_cell hz0
  go_enter Try.func24, Try.ntmps24
  go_wp2
  clear hc0
  refine Ph.region_at (by kernel_rfl) ?_
  refine Ph.at_quiet 6 (by kernel_rfl) ?_
  simp only [List.take_succ_cons, List.take_zero, List.drop_succ_cons, List.drop_zero]
  repeat ((first | (apply Ph.wpPh_g; (focus (intro w1 hS0; have hc := hp_cell (hp_below hS0 hzd); go_simp; first | exact rfl | exact ⟨rfl, Below.refl _ _⟩ | ((with_reducible refine (HL.out _).mono ?_); rintro e w2 ⟨rfl, rfl⟩; exact ⟨rfl, Below.refl _ _⟩) | ((with_reducible refine (HH.out _).mono ?_); rintro e w2 ⟨rfl, hb⟩; exact ⟨rfl, hb⟩))))); simp only [Act.put, List.setIfInBounds_toArray, List.set_cons_zero, List.set_cons_succ])
  refine Ph.wpPh_nil ?_; intro w2 hS
  refine Ph.at_end (by simp) ?_
  go_wp2
  go_ret
  exact ⟨congrArg (fun v => Ending.returned (Value.string v)) HEQ.out, below_call hb0 (below_call (below_drew (Below.refl _ _)) hS)⟩
theorem c_rvalue (has : Bool) (data : ByteArray) (hd : data.size ≤ 256) (w : World) : Calls Try.prog 24 #[.agg #[.bool has, .string data]] w fun e w' => e = .returned (.string ⟨(encV has data).toArray⟩) ∧ Below w.heap.size w w' := by
  cases has
  · exact c_rvalueF data w
  · exact c_rvalueT data hd w

theorem gV_le {h : Bool} {d : ByteArray} (hg : goodV h d) : d.size ≤ 256 := by
  unfold goodV at hg
  cases h
  · rw [if_neg (by decide)] at hg; omega
  · rw [if_pos rfl] at hg; exact hg
theorem rencP_le {lo hi : Int} (h1 : I64 lo) (h2 : I64 hi) : (encP lo hi).length ≤ 20 := by
  have g1 := encN_le h1
  have g2 := encN_le h2
  unfold encN at g1 g2
  unfold encP; rw [List.length_append]; omega
theorem bol1' (b : Bool) : (bol b).length = 1 := by cases b <;> rfl
theorem rencV_le {h : Bool} {d : ByteArray} (hd : d.size ≤ 256) : (encV h d).length ≤ 267 := by
  have g1 := rtxt_le hd (by decide)
  have g2 := bol1' h
  unfold encV
  rw [List.length_append]
  split <;> simp <;> omega
theorem ba0e (a : List UInt8) : (⟨a.toArray⟩ : ByteArray) ++ ⟨#[]⟩ = ⟨a.toArray⟩ := by
  apply ByteArray.ext
  apply Array.toList_inj.1
  simp [ByteArray.data_append]

end Go.Proofs.Ytiklpifaaogcpaa
