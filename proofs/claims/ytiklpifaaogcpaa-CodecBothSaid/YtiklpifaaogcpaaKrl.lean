/- The reference's Encode: the two kinds with lists. -/
import Derived.Test.YtiklpifaaogcpaaKrk
import Derived.Test.YtiklpifaaogcpaaKrn
import Derived.WalkKit
import Derived.WalkLawsBesides
import Derived.WalkSpells
import Derived.Below
import Derived.Deep.RegionHeld3
import Derived.Deep.QuietTactic
import Derived.BigQuiet
import Derived.Deep.DeepCutAuto
import Derived.Deep.DeepMust
import Derived.KernelRfl
import Derived.Lib.Hide
import Derived.Outline
import Derived.RegionTactic
import Derived.StillTailTactics
import Derived.Laws.IdiomStrings
import Derived.Handy
namespace Go.Proofs.Ytiklpifaaogcpaa
open Go.RowKit Go.Cl Go.Wr Go.Kc
set_option maxRecDepth 100000
set_option linter.unusedVariables false
set_option linter.unusedSimpArgs false


def EncW_Inv (w : World) (b : Nat) (cs : Array Value) (S : ByteArray) (L : List Wt) (t5 t8 : Value) (wr : World) : Prop := ∃ j : Nat, t8 = .int .i64 j ∧ j ≤ L.length ∧ t5 = .string (S ++ ⟨((L.take j).flatMap encE).toArray⟩) ∧ hp wr b = some (.cells cs 30 (0, 0)) ∧ Below w.heap.size w wr
def EncS_Inv (w : World) (b : Nat) (cs : Array Value) (S : ByteArray) (L : List ByteArray) (t5 t8 : Value) (wr : World) : Prop := ∃ j : Nat, t8 = .int .i64 j ∧ j ≤ L.length ∧ t5 = .string (S ++ ⟨((L.take j).flatMap encT').toArray⟩) ∧ hp wr b = some (.cells cs 30 (0, 0)) ∧ Below w.heap.size w wr
theorem take_len {α : Type} (e : α → List UInt8) (n : Nat) (L : List α) (h : ∀ x ∈ L, (e x).length ≤ n) (h8 : L.length ≤ 8) (j : Nat) : ((L.take j).flatMap e).length ≤ 8 * n := by
  have := flat_le e n (L.take j) (fun x hx => h x (List.mem_of_mem_take hx))
  have h2 : (L.take j).length ≤ 8 := by rw [List.length_take]; omega
  exact Nat.le_trans this (Nat.mul_le_mul_right _ h2)
theorem take_more {α : Type} (e : α → List UInt8) {L : List α} {j : Nat} {x : α} (hx : L[j]? = some x) : (L.take (j + 1)).flatMap e = (L.take j).flatMap e ++ e x := by
  obtain ⟨hj, rfl⟩ := List.getElem?_eq_some_iff.1 hx
  rw [List.take_succ_eq_append_getElem hj, List.flatMap_append]
  simp
theorem ba_assoc (a b c : ByteArray) : a ++ b ++ c = a ++ (b ++ c) := ByteArray.append_assoc

theorem encE_le {x : Wt} (h : x.good) : (encE x).length ≤ 309 := by
  have g1 := rtxt_le h.1.2 (by decide)
  have g2 := rencV_le (h := x.h) (gV_le h.2)
  unfold encE
  rw [List.length_append]
  omega
theorem ba0e' (a : ByteArray) : a ++ (⟨#[]⟩ : ByteArray) = a := by
  apply ByteArray.ext
  apply Array.toList_inj.1
  simp [ByteArray.data_append]

set_option maxHeartbeats 4000000 in
theorem r_enc_1 (node inc ses tx seq lo hi err n : Int) (key data : ByteArray) (has hit : Bool) (W : List Wt) (K : List ByteArray) (wp kp : Option Addr) (wq kq : Nat) (w : World) (hW : LsW w wp wq W) (hK : LsS w kp kq K) (hI : Mg.In ⟨1, node, inc, ses, tx, seq, key, lo, hi, has, data, hit, err, n, W, K⟩) (hO : OkM ⟨1, node, inc, ses, tx, seq, key, lo, hi, has, data, hit, err, n, W, K⟩) :
    Calls Try.prog 11 #[.agg #[.int .i64 1, .int .i64 node, .int .i64 inc, .int .i64 ses, .int .i64 tx, .int .i64 seq, .string key, .int .i64 lo, .int .i64 hi, .bool has, .string data, .bool hit, .int .i64 err, .int .i64 n, .slice wp W.length wq, .slice kp K.length kq]] w fun e w' => e = .returned (.tuple #[.string ⟨(encM ⟨1, node, inc, ses, tx, seq, key, lo, hi, has, data, hit, err, n, W, K⟩).toArray⟩, .int .i64 0]) ∧ Below w.heap.size w w' := by
  have hb0 : Below w.heap.size w (w.alloc (.cells #[.int .i64 1, .int .i64 node, .int .i64 inc, .int .i64 ses, .int .i64 tx, .int .i64 seq, .string key, .int .i64 lo, .int .i64 hi, .bool has, .string data, .bool hit, .int .i64 err, .int .i64 n, .slice wp W.length wq, .slice kp K.length kq] 30)) := below_alloc (Below.refl _ _) _
  have hz0 := hp_alloc_new w (.cells #[.int .i64 1, .int .i64 node, .int .i64 inc, .int .i64 ses, .int .i64 tx, .int .i64 seq, .string key, .int .i64 lo, .int .i64 hi, .bool has, .string data, .bool hit, .int .i64 err, .int .i64 n, .slice wp W.length wq, .slice kp K.length kq] 30)
  have h0 : chkM ⟨1, node, inc, ses, tx, seq, key, lo, hi, has, data, hit, err, n, W, K⟩ = 0 := by unfold chkM; rw [if_pos (by simp), if_pos hO]
  have HCK : Hid (∀ W', Below w.heap.size w W' → Calls Try.prog 13 #[.agg #[.int .i64 1, .int .i64 node, .int .i64 inc, .int .i64 ses, .int .i64 tx, .int .i64 seq, .string key, .int .i64 lo, .int .i64 hi, .bool has, .string data, .bool hit, .int .i64 err, .int .i64 n, .slice wp W.length wq, .slice kp K.length kq]] W' fun e w' => e = .returned (.int .i64 0) ∧ Below W'.heap.size W' w') := Lib.hid (fun W' hb => by have h1 := c_rcheck ⟨1, node, inc, ses, tx, seq, key, lo, hi, has, data, hit, err, n, W, K⟩ wp wq kp kq W' (hW.below hb) (Nat.le_trans hW.cap.1 hW.cap.2) (hK.below hb) (Nat.le_trans hK.cap.1 hK.cap.2); rw [h0] at h1; exact h1)
  have hth := hO.th.W rfl
  dsimp only at hth
  obtain ⟨S0, hS0⟩ : ∃ P : ByteArray, P = ⟨(encN 1).toArray⟩ := ⟨_, rfl⟩
  have zS0 : S0.size ≤ 10 := by rw [hS0, ba_sz]; exact encN_le hI.kind
  have HS0 : Hid (∀ W', Calls Try.prog 22 #[.int .i64 1] W' fun e w' => e = .returned (.string S0) ∧ Below W'.heap.size W' w') := Lib.hid (fun W' => by rw [hS0]; exact c_rnum 1 hI.kind W')
  obtain ⟨N, hN⟩ : ∃ P : ByteArray, P = ⟨(encN n).toArray⟩ := ⟨_, rfl⟩
  have zN : N.size ≤ 10 := by rw [hN, ba_sz]; exact encN_le hI.n
  have HN : Hid (∀ W', Calls Try.prog 23 #[.int .i64 n] W' fun e w' => e = .returned (.string N) ∧ Below W'.heap.size W' w') := Lib.hid (fun W' => by rw [hN]; exact ref_num W' n hI.n.1 hI.n.2)
  obtain ⟨P0, hP0⟩ : ∃ P : ByteArray, P = ⟨(encN ses).toArray⟩ := ⟨_, rfl⟩
  have zP0 : P0.size ≤ 10 := by rw [hP0, ba_sz]; exact encN_le hI.ses
  have HP0 : Hid (∀ W', Calls Try.prog 22 #[.int .i64 ses] W' fun e w' => e = .returned (.string P0) ∧ Below W'.heap.size W' w') := Lib.hid (fun W' => by rw [hP0]; exact c_rnum ses hI.ses W')
  obtain ⟨P1, hP1⟩ : ∃ P : ByteArray, P = ⟨(encN seq).toArray⟩ := ⟨_, rfl⟩
  have zP1 : P1.size ≤ 10 := by rw [hP1, ba_sz]; exact encN_le hI.seq
  have HP1 : Hid (∀ W', Calls Try.prog 22 #[.int .i64 seq] W' fun e w' => e = .returned (.string P1) ∧ Below W'.heap.size W' w') := Lib.hid (fun W' => by rw [hP1]; exact c_rnum seq hI.seq W')
  obtain ⟨P2, hP2⟩ : ∃ P : ByteArray, P = ⟨(encN W.length).toArray⟩ := ⟨_, rfl⟩
  have zP2 : P2.size ≤ 10 := by rw [hP2, ba_sz]; exact encN_le ⟨by omega, by omega⟩
  have HP2 : Hid (∀ W', Calls Try.prog 22 #[.int .i64 W.length] W' fun e w' => e = .returned (.string P2) ∧ Below W'.heap.size W' w') := Lib.hid (fun W' => by rw [hP2]; exact c_rnum (W.length : Int) ⟨by omega, by omega⟩ W')
  have a0 : ¬ 9223372036854775807 < S0.size + P0.size := by omega
  have a1 : ¬ 9223372036854775807 < S0.size + P0.size + P1.size := by omega
  have a2 : ¬ 9223372036854775807 < S0.size + P0.size + P1.size + P2.size := by omega
  have HZS : Hid ((S0 ++ P0 ++ P1 ++ P2).size ≤ 60) := Lib.hid (by simp only [ByteArray.size_append]; omega)
  have HEQ : Hid (S0 ++ P0 ++ P1 ++ P2 ++ ⟨(W.flatMap encE).toArray⟩ = ⟨(encM ⟨1, node, inc, ses, tx, seq, key, lo, hi, has, data, hit, err, n, W, K⟩).toArray⟩) := Lib.hid (by rw [hS0, hP0, hP1, hP2]; simp only [ba2]; congr 2; simp [encM, encF])
  have HL8 := Lib.hid (show W.length ≤ 8 from hth.2.2)
  have HGD := Lib.hid hth.1
  have HW := Lib.hid hW
  have HK := Lib.hid hK
  clear hS0 zS0 hN zN hP0 zP0 hP1 zP1 hP2 zP2 h0 hI hO hW hK hth
  go_enter Try.func11, Try.ntmps11
  iterate 17 go_step
  refine ld_op rfl (.tmp 1) rfl w.heap.size rfl _ hz0 rfl ?_
  simp only [Act.put, List.setIfInBounds_toArray, List.set_cons_zero, List.set_cons_succ]
  go_wp2_with fail
  refine (HCK.out _ hb0).mono ?_; rintro e w1 ⟨rfl, hb1⟩
  have hb11 := below_call hb0 hb1
  have hz1 := hp_below hb1 hz0
  have hc1 := hp_cell hz1
  clear hb1 hz0 hb0
  go_wp2_with fail
  refine (HS0.out _).mono ?_; rintro e w2 ⟨rfl, hb2⟩
  have hb22 := below_call hb11 hb2
  have hz2 := hp_below hb2 hz1
  have hc2 := hp_cell hz2
  clear hc1 hb2 hz1 hb11
  go_wp2_with fail
  refine (HN.out _).mono ?_; rintro e w3 ⟨rfl, hb3⟩
  have hb33 := below_call hb22 hb3
  have hz3 := hp_below hb3 hz2
  have hc3 := hp_cell hz3
  clear hc2 hb3 hz2 hb22
  go_wp2
  clear hc3
  have hzd := hp_below (below_drew (Below.refl w3.heap.size _)) hz3
  refine Ph.region_at (by kernel_rfl) ?_
  refine Ph.at_quiet 15 (by kernel_rfl) ?_
  simp only [List.take_succ_cons, List.take_zero, List.drop_succ_cons, List.drop_zero]
  repeat ((first | (apply Ph.wpPh_g; (focus (intro w1 hS0; have hc := hp_cell (hp_below hS0 hzd); go_simp; first | exact rfl | exact ⟨rfl, Below.refl _ _⟩ | ((with_reducible refine (HP0.out _).mono ?_); rintro e w2 ⟨rfl, hb⟩; exact ⟨rfl, hb⟩) | ((with_reducible refine (HP1.out _).mono ?_); rintro e w2 ⟨rfl, hb⟩; exact ⟨rfl, hb⟩) | ((with_reducible refine (HP2.out _).mono ?_); rintro e w2 ⟨rfl, hb⟩; exact ⟨rfl, hb⟩))))); simp only [Act.put, List.setIfInBounds_toArray, List.set_cons_zero, List.set_cons_succ])
  refine Ph.wpPh_nil ?_; intro w9 hS
  refine Ph.at_end (by simp) ?_
  have hb99 := below_call hb33 (below_call (below_drew (Below.refl _ _)) hS)
  have hz9 := hp_below hS hzd
  clear hS hzd hz3 hb33 a0 a1 a2 HS0 HN HCK HP0 HP1 HP2
  generalize S0 ++ P0 ++ P1 ++ P2 = S at *
  go_wp2
  go_loopw [5, 8] (EncW_Inv w w.heap.size #[.int .i64 1, .int .i64 node, .int .i64 inc, .int .i64 ses, .int .i64 tx, .int .i64 seq, .string key, .int .i64 lo, .int .i64 hi, .bool has, .string data, .bool hit, .int .i64 err, .int .i64 n, .slice wp W.length wq, .slice kp K.length kq] S W) (fun _ t _ => (W.length - (intOf t).toNat))
  case atStart => exact ⟨0, rfl, Nat.zero_le _, by simp [ba0e'], hz9, hb99⟩
  case round =>
    obtain ⟨j, rfl, hj, rfl, hz, hb⟩ := hrel
    have HB := Lib.hid hb; clear hb
    have hlen : (S ++ ⟨((W.take j).flatMap encE).toArray⟩ : ByteArray).size ≤ 4000 := by
      have g1 := HZS.out
      have g2 := take_len encE 309 W (fun x hx => encE_le (HGD.out x hx)) HL8.out j
      rw [ByteArray.size_append, ba_sz ((W.take j).flatMap encE)]; omega
    by_cases hlt : j < W.length
    · obtain ⟨x, hx⟩ : ∃ x, W[j]? = some x := ⟨W[j], List.getElem?_eq_getElem hlt⟩
      have hgd := HGD.out x (List.mem_of_getElem? hx)
      have HX := Lib.hid hx; clear hx
      have HST : Hid ((S ++ ⟨((W.take (j + 1)).flatMap encE).toArray⟩ : ByteArray) = S ++ ⟨((W.take j).flatMap encE).toArray⟩ ++ ⟨(encE x).toArray⟩) := Lib.hid (by rw [take_more encE HX.out, ba_assoc, ba2 ((W.take j).flatMap encE) (encE x)])
      obtain ⟨PK, hPK⟩ : ∃ P : ByteArray, P = ⟨(encT' x.k).toArray⟩ := ⟨_, rfl⟩
      have zPK : PK.size ≤ 42 := by rw [hPK, ba_sz]; exact rtxt_le (k := 32) hgd.1.2 (by decide)
      have HPK : Hid (∀ W', Calls Try.prog 26 #[.string x.k] W' fun e w' => e = .returned (.string PK) ∧ Below W'.heap.size W' w') := Lib.hid (fun W' => by rw [hPK]; exact ref_text W' x.k (Nat.le_trans hgd.1.2 (by decide)) (Nat.le_trans (rtxt_le hgd.1.2 (by decide)) (by decide)))
      obtain ⟨PV, hPV⟩ : ∃ P : ByteArray, P = ⟨(encV x.h x.d).toArray⟩ := ⟨_, rfl⟩
      have zPV : PV.size ≤ 267 := by rw [hPV, ba_sz]; exact rencV_le (gV_le hgd.2)
      have HPV : Hid (∀ W', Calls Try.prog 24 #[.agg #[.bool x.h, .string x.d]] W' fun e w' => e = .returned (.string PV) ∧ Below W'.heap.size W' w') := Lib.hid (fun W' => by rw [hPV]; exact c_rvalue x.h x.d (gV_le hgd.2) W')
      obtain ⟨s, hs⟩ : ∃ s : ByteArray, s = S ++ ⟨((W.take j).flatMap encE).toArray⟩ := ⟨_, rfl⟩
      rw [← hs] at hlen HST ⊢
      have b0 : ¬ 9223372036854775807 < s.size + PK.size := by omega
      have b1 : ¬ 9223372036854775807 < s.size + PK.size + PV.size := by omega
      have HSX : Hid ((S ++ ⟨((W.take (j + 1)).flatMap encE).toArray⟩ : ByteArray) = s ++ PK ++ PV) := Lib.hid (by rw [HST.out, hPK, hPV, ba_assoc, ba2 (encT' x.k) (encV x.h x.d)]; rfl)
      obtain ⟨g, o, rfl, hgl, hc0, hc1, hc2⟩ := (HW.out.below HB.out).at_ j x HX.out
      clear hs hlen HST hPK hPV zPK zPV hgd
      have hj64 : (j : Int) < 9223372036854775807 := by have := HL8.out; omega
      have hc := hp_cell hz
      go_wp2
      clear hc
      have hzd := hp_below (below_drew (Below.refl wr.heap.size _)) hz
      have k0 := cell_below (below_drew (Below.refl wr.heap.size _)) hc0
      have k1 := cell_below (below_drew (Below.refl wr.heap.size _)) hc1
      have k2 := cell_below (below_drew (Below.refl wr.heap.size _)) hc2
      refine Ph.region_at (by kernel_rfl) ?_
      refine Ph.at_quiet 18 (by kernel_rfl) ?_
      simp only [List.take_succ_cons, List.take_zero, List.drop_succ_cons, List.drop_zero]
      repeat ((first | (apply Ph.wpPh_g; (focus (intro w1 hS0; have hc := hp_cell (hp_below hS0 hzd); have d0 := cell_below hS0 k0; have d1 := cell_below hS0 k1; have d2 := cell_below hS0 k2; go_simp; first | exact rfl | exact ⟨rfl, Below.refl _ _⟩ | ((with_reducible refine (HPK.out _).mono ?_); rintro e w2 ⟨rfl, hb⟩; exact ⟨rfl, hb⟩) | ((with_reducible refine (HPV.out _).mono ?_); rintro e w2 ⟨rfl, hb⟩; exact ⟨rfl, hb⟩))))); simp only [Act.put, List.setIfInBounds_toArray, List.set_cons_zero, List.set_cons_succ])
      refine Ph.wpPh_nil ?_; intro w8 hS
      refine Ph.at_end (by simp) ?_
      have hb88 := below_call HB.out (below_call (below_drew (Below.refl _ _)) hS)
      have hz8 := hp_below hS hzd
      clear hS hzd k0 k1 k2 hc0 hc1 hc2
      go_wp2
      go_roundw
      case rel => exact ⟨j + 1, by go_num, by omega, congrArg Value.string HSX.out.symm, hz8, hb88⟩
      case measure => simp [intOf]; omega
    · have hc := hp_cell hz
      have hj2 : j = W.length := by omega
      have HSE : Hid ((S ++ ⟨((W.take j).flatMap encE).toArray⟩ : ByteArray) = ⟨(encM ⟨1, node, inc, ses, tx, seq, key, lo, hi, has, data, hit, err, n, W, K⟩).toArray⟩) := Lib.hid (by rw [hj2, List.take_length]; exact HEQ.out)
      clear hj2 hlen
      go_wp2
      go_ret2
      exact ⟨congrArg (fun v => Ending.returned (Value.tuple #[Value.string v, .int .i64 0])) HSE.out, HB.out⟩

set_option maxHeartbeats 4000000 in
theorem r_enc_8 (node inc ses tx seq lo hi err n : Int) (key data : ByteArray) (has hit : Bool) (W : List Wt) (K : List ByteArray) (wp kp : Option Addr) (wq kq : Nat) (w : World) (hW : LsW w wp wq W) (hK : LsS w kp kq K) (hI : Mg.In ⟨8, node, inc, ses, tx, seq, key, lo, hi, has, data, hit, err, n, W, K⟩) (hO : OkM ⟨8, node, inc, ses, tx, seq, key, lo, hi, has, data, hit, err, n, W, K⟩) :
    Calls Try.prog 11 #[.agg #[.int .i64 8, .int .i64 node, .int .i64 inc, .int .i64 ses, .int .i64 tx, .int .i64 seq, .string key, .int .i64 lo, .int .i64 hi, .bool has, .string data, .bool hit, .int .i64 err, .int .i64 n, .slice wp W.length wq, .slice kp K.length kq]] w fun e w' => e = .returned (.tuple #[.string ⟨(encM ⟨8, node, inc, ses, tx, seq, key, lo, hi, has, data, hit, err, n, W, K⟩).toArray⟩, .int .i64 0]) ∧ Below w.heap.size w w' := by
  have hb0 : Below w.heap.size w (w.alloc (.cells #[.int .i64 8, .int .i64 node, .int .i64 inc, .int .i64 ses, .int .i64 tx, .int .i64 seq, .string key, .int .i64 lo, .int .i64 hi, .bool has, .string data, .bool hit, .int .i64 err, .int .i64 n, .slice wp W.length wq, .slice kp K.length kq] 30)) := below_alloc (Below.refl _ _) _
  have hz0 := hp_alloc_new w (.cells #[.int .i64 8, .int .i64 node, .int .i64 inc, .int .i64 ses, .int .i64 tx, .int .i64 seq, .string key, .int .i64 lo, .int .i64 hi, .bool has, .string data, .bool hit, .int .i64 err, .int .i64 n, .slice wp W.length wq, .slice kp K.length kq] 30)
  have h0 : chkM ⟨8, node, inc, ses, tx, seq, key, lo, hi, has, data, hit, err, n, W, K⟩ = 0 := by unfold chkM; rw [if_pos (by simp), if_pos hO]
  have HCK : Hid (∀ W', Below w.heap.size w W' → Calls Try.prog 13 #[.agg #[.int .i64 8, .int .i64 node, .int .i64 inc, .int .i64 ses, .int .i64 tx, .int .i64 seq, .string key, .int .i64 lo, .int .i64 hi, .bool has, .string data, .bool hit, .int .i64 err, .int .i64 n, .slice wp W.length wq, .slice kp K.length kq]] W' fun e w' => e = .returned (.int .i64 0) ∧ Below W'.heap.size W' w') := Lib.hid (fun W' hb => by have h1 := c_rcheck ⟨8, node, inc, ses, tx, seq, key, lo, hi, has, data, hit, err, n, W, K⟩ wp wq kp kq W' (hW.below hb) (Nat.le_trans hW.cap.1 hW.cap.2) (hK.below hb) (Nat.le_trans hK.cap.1 hK.cap.2); rw [h0] at h1; exact h1)
  have hth := hO.th.K rfl
  dsimp only at hth
  obtain ⟨S0, hS0⟩ : ∃ P : ByteArray, P = ⟨(encN 8).toArray⟩ := ⟨_, rfl⟩
  have zS0 : S0.size ≤ 10 := by rw [hS0, ba_sz]; exact encN_le hI.kind
  have HS0 : Hid (∀ W', Calls Try.prog 22 #[.int .i64 8] W' fun e w' => e = .returned (.string S0) ∧ Below W'.heap.size W' w') := Lib.hid (fun W' => by rw [hS0]; exact c_rnum 8 hI.kind W')
  obtain ⟨N, hN⟩ : ∃ P : ByteArray, P = ⟨(encN n).toArray⟩ := ⟨_, rfl⟩
  have zN : N.size ≤ 10 := by rw [hN, ba_sz]; exact encN_le hI.n
  have HN : Hid (∀ W', Calls Try.prog 23 #[.int .i64 n] W' fun e w' => e = .returned (.string N) ∧ Below W'.heap.size W' w') := Lib.hid (fun W' => by rw [hN]; exact ref_num W' n hI.n.1 hI.n.2)
  obtain ⟨P0, hP0⟩ : ∃ P : ByteArray, P = ⟨(encN node).toArray⟩ := ⟨_, rfl⟩
  have zP0 : P0.size ≤ 10 := by rw [hP0, ba_sz]; exact encN_le hI.node
  have HP0 : Hid (∀ W', Calls Try.prog 22 #[.int .i64 node] W' fun e w' => e = .returned (.string P0) ∧ Below W'.heap.size W' w') := Lib.hid (fun W' => by rw [hP0]; exact c_rnum node hI.node W')
  obtain ⟨P1, hP1⟩ : ∃ P : ByteArray, P = ⟨(encN K.length).toArray⟩ := ⟨_, rfl⟩
  have zP1 : P1.size ≤ 10 := by rw [hP1, ba_sz]; exact encN_le ⟨by omega, by omega⟩
  have HP1 : Hid (∀ W', Calls Try.prog 22 #[.int .i64 K.length] W' fun e w' => e = .returned (.string P1) ∧ Below W'.heap.size W' w') := Lib.hid (fun W' => by rw [hP1]; exact c_rnum (K.length : Int) ⟨by omega, by omega⟩ W')
  have a0 : ¬ 9223372036854775807 < S0.size + P0.size := by omega
  have a1 : ¬ 9223372036854775807 < S0.size + P0.size + N.size := by omega
  have a2 : ¬ 9223372036854775807 < S0.size + P0.size + N.size + P1.size := by omega
  have HZS : Hid ((S0 ++ P0 ++ N ++ P1).size ≤ 60) := Lib.hid (by simp only [ByteArray.size_append]; omega)
  have HEQ : Hid (S0 ++ P0 ++ N ++ P1 ++ ⟨(K.flatMap encT').toArray⟩ = ⟨(encM ⟨8, node, inc, ses, tx, seq, key, lo, hi, has, data, hit, err, n, W, K⟩).toArray⟩) := Lib.hid (by rw [hS0, hN, hP0, hP1]; simp only [ba2]; congr 2; simp [encM, encF])
  have HL8 := Lib.hid (show K.length ≤ 8 from hth.2.2)
  have HGD := Lib.hid hth.1
  have HW := Lib.hid hW
  have HK := Lib.hid hK
  clear hS0 zS0 hN zN hP0 zP0 hP1 zP1 h0 hI hO hW hK hth
  go_enter Try.func11, Try.ntmps11
  iterate 17 go_step
  refine ld_op rfl (.tmp 1) rfl w.heap.size rfl _ hz0 rfl ?_
  simp only [Act.put, List.setIfInBounds_toArray, List.set_cons_zero, List.set_cons_succ]
  go_wp2_with fail
  refine (HCK.out _ hb0).mono ?_; rintro e w1 ⟨rfl, hb1⟩
  have hb11 := below_call hb0 hb1
  have hz1 := hp_below hb1 hz0
  have hc1 := hp_cell hz1
  clear hb1 hz0 hb0
  go_wp2_with fail
  refine (HS0.out _).mono ?_; rintro e w2 ⟨rfl, hb2⟩
  have hb22 := below_call hb11 hb2
  have hz2 := hp_below hb2 hz1
  have hc2 := hp_cell hz2
  clear hc1 hb2 hz1 hb11
  go_wp2_with fail
  refine (HN.out _).mono ?_; rintro e w3 ⟨rfl, hb3⟩
  have hb33 := below_call hb22 hb3
  have hz3 := hp_below hb3 hz2
  have hc3 := hp_cell hz3
  clear hc2 hb3 hz2 hb22
  go_wp2
  clear hc3
  have hzd := hp_below (below_drew (Below.refl w3.heap.size _)) hz3
  refine Ph.region_at (by kernel_rfl) ?_
  refine Ph.at_quiet 13 (by kernel_rfl) ?_
  simp only [List.take_succ_cons, List.take_zero, List.drop_succ_cons, List.drop_zero]
  repeat ((first | (apply Ph.wpPh_g; (focus (intro w1 hS0; have hc := hp_cell (hp_below hS0 hzd); go_simp; first | exact rfl | exact ⟨rfl, Below.refl _ _⟩ | ((with_reducible refine (HP0.out _).mono ?_); rintro e w2 ⟨rfl, hb⟩; exact ⟨rfl, hb⟩) | ((with_reducible refine (HP1.out _).mono ?_); rintro e w2 ⟨rfl, hb⟩; exact ⟨rfl, hb⟩))))); simp only [Act.put, List.setIfInBounds_toArray, List.set_cons_zero, List.set_cons_succ])
  refine Ph.wpPh_nil ?_; intro w9 hS
  refine Ph.at_end (by simp) ?_
  have hb99 := below_call hb33 (below_call (below_drew (Below.refl _ _)) hS)
  have hz9 := hp_below hS hzd
  clear hS hzd hz3 hb33 a0 a1 a2 HS0 HN HCK HP0 HP1
  generalize S0 ++ P0 ++ N ++ P1 = S at *
  go_wp2
  go_loopw [5, 9] (EncS_Inv w w.heap.size #[.int .i64 8, .int .i64 node, .int .i64 inc, .int .i64 ses, .int .i64 tx, .int .i64 seq, .string key, .int .i64 lo, .int .i64 hi, .bool has, .string data, .bool hit, .int .i64 err, .int .i64 n, .slice wp W.length wq, .slice kp K.length kq] S K) (fun _ t _ => (K.length - (intOf t).toNat))
  case atStart => exact ⟨0, rfl, Nat.zero_le _, by simp [ba0e'], hz9, hb99⟩
  case round =>
    obtain ⟨j, rfl, hj, rfl, hz, hb⟩ := hrel
    have HB := Lib.hid hb; clear hb
    have hlen : (S ++ ⟨((K.take j).flatMap encT').toArray⟩ : ByteArray).size ≤ 4000 := by
      have g1 := HZS.out
      have g2 := take_len encT' 42 K (fun x hx => rtxt_le (k := 32) (HGD.out x hx).2 (by decide)) HL8.out j
      rw [ByteArray.size_append, ba_sz ((K.take j).flatMap encT')]; omega
    by_cases hlt : j < K.length
    · obtain ⟨x, hx⟩ : ∃ x, K[j]? = some x := ⟨K[j], List.getElem?_eq_getElem hlt⟩
      have hgd := HGD.out x (List.mem_of_getElem? hx)
      have HX := Lib.hid hx; clear hx
      have HST : Hid ((S ++ ⟨((K.take (j + 1)).flatMap encT').toArray⟩ : ByteArray) = S ++ ⟨((K.take j).flatMap encT').toArray⟩ ++ ⟨(encT' x).toArray⟩) := Lib.hid (by rw [take_more encT' HX.out, ba_assoc, ba2 ((K.take j).flatMap encT') (encT' x)])
      obtain ⟨PK, hPK⟩ : ∃ P : ByteArray, P = ⟨(encT' x).toArray⟩ := ⟨_, rfl⟩
      have zPK : PK.size ≤ 42 := by rw [hPK, ba_sz]; exact rtxt_le (k := 32) hgd.2 (by decide)
      have HPK : Hid (∀ W', Calls Try.prog 26 #[.string x] W' fun e w' => e = .returned (.string PK) ∧ Below W'.heap.size W' w') := Lib.hid (fun W' => by rw [hPK]; exact ref_text W' x (Nat.le_trans hgd.2 (by decide)) (Nat.le_trans (rtxt_le hgd.2 (by decide)) (by decide)))
      obtain ⟨s, hs⟩ : ∃ s : ByteArray, s = S ++ ⟨((K.take j).flatMap encT').toArray⟩ := ⟨_, rfl⟩
      rw [← hs] at hlen HST ⊢
      have b0 : ¬ 9223372036854775807 < s.size + PK.size := by omega
      have HSX : Hid ((S ++ ⟨((K.take (j + 1)).flatMap encT').toArray⟩ : ByteArray) = s ++ PK) := Lib.hid (by rw [HST.out, hPK])
      obtain ⟨g, o, rfl, hgl, hc0⟩ := (HK.out.below HB.out).at_ j x HX.out
      clear hs hlen HST hPK zPK hgd
      have hj64 : (j : Int) < 9223372036854775807 := by have := HL8.out; omega
      have hc := hp_cell hz
      go_wp2_with fail
      refine (HPK.out _).mono ?_; rintro e w8 ⟨rfl, hb8⟩
      have hz8 := hp_below hb8 hz
      go_wp2
      go_roundw
      case rel => exact ⟨j + 1, by go_num, by omega, congrArg Value.string HSX.out.symm, hz8, below_call HB.out hb8⟩
      case measure => simp [intOf]; omega
    · have hc := hp_cell hz
      have hj2 : j = K.length := by omega
      have HSE : Hid ((S ++ ⟨((K.take j).flatMap encT').toArray⟩ : ByteArray) = ⟨(encM ⟨8, node, inc, ses, tx, seq, key, lo, hi, has, data, hit, err, n, W, K⟩).toArray⟩) := Lib.hid (by rw [hj2, List.take_length]; exact HEQ.out)
      clear hj2 hlen
      go_wp2
      go_ret2
      exact ⟨congrArg (fun v => Ending.returned (Value.tuple #[Value.string v, .int .i64 0])) HSE.out, HB.out⟩

end Go.Proofs.Ytiklpifaaogcpaa
