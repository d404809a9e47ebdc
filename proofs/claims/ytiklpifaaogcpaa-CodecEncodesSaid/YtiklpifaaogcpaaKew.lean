/- CodecEncodes: its walk. -/
import Derived.Test.YtiklpifaaogcpaaKrf
import Derived.Test.YtiklpifaaogcpaaKcf
import Derived.WalkKit
import Derived.WalkLawsBesides
import Derived.WalkSpells
import Derived.Below
import Derived.Deep.RegionHeld3
import Derived.Deep.QuietTactic
import Derived.BigQuiet
import Derived.Deep.DeepCutAuto
import Derived.Deep.DeepMust
import Derived.KernelRfl
import Derived.Lib.Hide
import Derived.Outline
import Derived.RegionTactic
import Derived.StillTailTactics
import Derived.Laws.IdiomStrings
import Derived.Handy
namespace Go.Proofs.Ytiklpifaaogcpaa
open Go.RowKit Go.Cl Go.Wr Go.Kc
set_option maxRecDepth 100000
set_option linter.unusedVariables false
set_option linter.unusedSimpArgs false


set_option maxHeartbeats 4000000 in
theorem c_encodes (m : Mg) (hIn : m.In) (wp : Option Addr) (wc : Nat) (kp : Option Addr) (kc : Nat) (w : World) (hW : LsW w wp wc m.W) (hK : LsS w kp kc m.K) :
    Calls Try.prog 3 #[.agg (m.cs wp wc kp kc)] w fun e w' => e = .returned (.bool true) ∧ Below w.heap.size w w' := by
  have HZ : Hid ((m.cs wp wc kp kc).size = 16 ∧ (m.cs wp wc kp kc).all (·.oneCell') = true) := Lib.hid ⟨rfl, by simp [Mg.cs, Value.oneCell']⟩
  obtain ⟨S, E, h1, h2, h3, h4⟩ : ∃ (S : ByteArray) (E : Int), (∀ W', LsW W' wp wc m.W → LsS W' kp kc m.K → Calls Try.prog 10 #[.agg (m.cs wp wc kp kc)] W' fun e w' => e = .returned (.tuple #[.string S, .int .i64 E]) ∧ Below W'.heap.size W' w') ∧ (∀ W', LsW W' wp wc m.W → LsS W' kp kc m.K → Calls Try.prog 11 #[.agg (m.cs wp wc kp kc)] W' fun e w' => e = .returned (.tuple #[.string S, .int .i64 E]) ∧ Below W'.heap.size W' w') ∧ (∀ W', LsW W' wp wc m.W → LsS W' kp kc m.K → Calls Try.prog 12 #[.agg (m.cs wp wc kp kc)] W' fun e w' => e = .returned (.int .i64 E) ∧ Below W'.heap.size W' w') ∧ (∀ W', LsW W' wp wc m.W → LsS W' kp kc m.K → Calls Try.prog 13 #[.agg (m.cs wp wc kp kc)] W' fun e w' => e = .returned (.int .i64 E) ∧ Below W'.heap.size W' w') := by
    have hw := fun (h : m.W.length ≤ wc ∧ wc ≤ maxLen) => Nat.le_trans h.1 h.2
    have hk := fun (h : m.K.length ≤ kc ∧ kc ≤ maxLen) => Nat.le_trans h.1 h.2
    by_cases hc : chkM m = 0
    · refine ⟨⟨(encM m).toArray⟩, 0, fun W' a b => (c_encode m hIn wp wc kp kc W' a (hw a.cap) b (hk b.cap)).mono fun e w' h => ⟨h.1 hc, h.2.2⟩, fun W' a b => (c_rencode m hIn wp wc kp kc W' a b).mono fun e w' h => ⟨h.1 hc, h.2.2⟩, fun W' a b => ?_, fun W' a b => ?_⟩
      · have := c_check m wp wc kp kc W' a (hw a.cap) b (hk b.cap)
        rwa [hc] at this
      · have := c_rcheck m wp wc kp kc W' a (hw a.cap) b (hk b.cap)
        rwa [hc] at this
    · exact ⟨⟨#[]⟩, chkM m, fun W' a b => (c_encode m hIn wp wc kp kc W' a (hw a.cap) b (hk b.cap)).mono fun e w' h => ⟨h.2.1 hc, h.2.2⟩, fun W' a b => (c_rencode m hIn wp wc kp kc W' a b).mono fun e w' h => ⟨h.2.1 hc, h.2.2⟩, fun W' a b => c_check m wp wc kp kc W' a (hw a.cap) b (hk b.cap), fun W' a b => c_rcheck m wp wc kp kc W' a (hw a.cap) b (hk b.cap)⟩
  have HEN := Lib.hid h1
  have HRE := Lib.hid h2
  have HCH := Lib.hid h3
  have HRC := Lib.hid h4
  have HWK := Lib.hid (And.intro hW hK)
  clear h1 h2 h3 h4 hW hK hIn
  generalize m.cs wp wc kp kc = A at *
  have hz := hp_alloc_new w (.cells A 30)
  have hba : Below w.heap.size w (w.alloc (.cells A 30)) := below_alloc (Below.refl _ _) _
  have HBA := Lib.hid hba
  have HZ0 := Lib.hid hz
  clear hz hba
  go_enter Try.func3, Try.ntmps3
  go_wp2_with fail
  refine (c_fixed _).mono ?_
  rintro e w0 ⟨rfl, hb0⟩
  have hb00 := below_call HBA.out hb0
  have k2 := hp_below hb0 HZ0.out
  have HWK0 := Lib.hid (And.intro (HWK.out.1.below hb00) (HWK.out.2.below hb00))
  clear hb0 HBA HZ0
  dsimp only
  iterate 13 go_step
  refine ld_op rfl (.tmp 1) rfl w.heap.size rfl A k2 HZ.out.1 ?_
  simp only [Act.put, List.setIfInBounds_toArray, List.set_cons_zero, List.set_cons_succ]
  go_wp2_with fail
  refine (HEN.out w0 HWK0.out.1 HWK0.out.2).mono ?_
  rintro e w1 ⟨rfl, hb1⟩
  have hb11 := below_call hb00 hb1
  have k3 := hp_below hb1 k2
  have HWK1 := Lib.hid (And.intro (HWK0.out.1.below hb1) (HWK0.out.2.below hb1))
  clear hb1 k2 HWK0 hb00
  dsimp only
  iterate 21 go_step
  refine ld_op rfl (.tmp 1) rfl w.heap.size rfl A k3 HZ.out.1 ?_
  simp only [Act.put, List.setIfInBounds_toArray, List.set_cons_zero, List.set_cons_succ]
  go_wp2_with fail
  refine (HRE.out w1 HWK1.out.1 HWK1.out.2).mono ?_
  rintro e w2 ⟨rfl, hb2⟩
  have hb22 := below_call hb11 hb2
  have k4 := hp_below hb2 k3
  have HWK2 := Lib.hid (And.intro (HWK1.out.1.below hb2) (HWK1.out.2.below hb2))
  clear hb2 k3 HWK1 hb11
  go_wp2
  have hzd := hp_below (below_drew (Below.refl w2.heap.size _)) k4
  have HWKd := Lib.hid (And.intro (HWK2.out.1.below (below_drew (Below.refl _ _))) (HWK2.out.2.below (below_drew (Below.refl _ _))))
  refine Ph.region_at (by kernel_rfl) ?_
  refine Ph.at_quiet 16 (by kernel_rfl) ?_
  simp only [List.take_succ_cons, List.take_zero, List.drop_succ_cons, List.drop_zero]
  apply Ph.wpPh_g; (focus (intro w1 hS0; go_simp; first | exact rfl | exact ⟨rfl, Below.refl _ _⟩)); simp only [Act.put, List.setIfInBounds_toArray, List.set_cons_zero, List.set_cons_succ]
  apply Ph.wpPh_g; (focus (intro w1 hS0; go_simp; first | exact rfl | exact ⟨rfl, Below.refl _ _⟩)); simp only [Act.put, List.setIfInBounds_toArray, List.set_cons_zero, List.set_cons_succ]
  apply Ph.wpPh_g; (focus (intro w1 hS0; go_simp; first | exact rfl | exact ⟨rfl, Below.refl _ _⟩)); simp only [Act.put, List.setIfInBounds_toArray, List.set_cons_zero, List.set_cons_succ]
  apply Ph.wpPh_g; (focus (intro w1 hS0; go_simp; first | exact rfl | exact ⟨rfl, Below.refl _ _⟩)); simp only [Act.put, List.setIfInBounds_toArray, List.set_cons_zero, List.set_cons_succ]
  apply Ph.wpPh_g; (focus (intro w1 hS0; go_simp; first | exact rfl | exact ⟨rfl, Below.refl _ _⟩)); simp only [Act.put, List.setIfInBounds_toArray, List.set_cons_zero, List.set_cons_succ]
  apply Ph.wpPh_g; (focus (intro w1 hS0; go_simp; first | exact rfl | exact ⟨rfl, Below.refl _ _⟩)); simp only [Act.put, List.setIfInBounds_toArray, List.set_cons_zero, List.set_cons_succ]
  apply Ph.wpPh_g; (focus (intro w1 hS0; go_simp; first | exact rfl | exact ⟨rfl, Below.refl _ _⟩)); simp only [Act.put, List.setIfInBounds_toArray, List.set_cons_zero, List.set_cons_succ]
  apply Ph.wpPh_g; (focus (intro w1 hS0; go_simp; first | exact rfl | exact ⟨rfl, Below.refl _ _⟩)); simp only [Act.put, List.setIfInBounds_toArray, List.set_cons_zero, List.set_cons_succ]
  apply Ph.wpPh_g; (focus (intro w1 hS0; go_simp; first | exact rfl | exact ⟨rfl, Below.refl _ _⟩)); simp only [Act.put, List.setIfInBounds_toArray, List.set_cons_zero, List.set_cons_succ]
  apply Ph.wpPh_g; (focus (intro w1 hS0; rw [if_pos (by rfl)]; exact gv_ld (.tmp 1) rfl w.heap.size rfl A (hp_below hS0 hzd) HZ.out.1 (Below.refl _ _))); simp only [Act.put, List.setIfInBounds_toArray, List.set_cons_zero, List.set_cons_succ]
  apply Ph.wpPh_g; (focus (intro w1 hS0; go_simp; refine (HCH.out w1 (HWKd.out.1.below hS0) (HWKd.out.2.below hS0)).mono ?_; rintro e w2 ⟨rfl, hb⟩; exact ⟨rfl, hb⟩)); simp only [Act.put, List.setIfInBounds_toArray, List.set_cons_zero, List.set_cons_succ]
  apply Ph.wpPh_g; (focus (intro w1 hS0; rw [if_pos (by rfl)]; exact gv_ld (.tmp 1) rfl w.heap.size rfl A (hp_below hS0 hzd) HZ.out.1 (Below.refl _ _))); simp only [Act.put, List.setIfInBounds_toArray, List.set_cons_zero, List.set_cons_succ]
  apply Ph.wpPh_g; (focus (intro w1 hS0; go_simp; refine (HRC.out w1 (HWKd.out.1.below hS0) (HWKd.out.2.below hS0)).mono ?_; rintro e w2 ⟨rfl, hb⟩; exact ⟨rfl, hb⟩)); simp only [Act.put, List.setIfInBounds_toArray, List.set_cons_zero, List.set_cons_succ]
  apply Ph.wpPh_g; (focus (intro w1 hS0; go_simp; first | exact rfl | exact ⟨rfl, Below.refl _ _⟩)); simp only [Act.put, List.setIfInBounds_toArray, List.set_cons_zero, List.set_cons_succ]
  apply Ph.wpPh_g; (focus (intro w1 hS0; go_simp; first | exact rfl | exact ⟨rfl, Below.refl _ _⟩)); simp only [Act.put, List.setIfInBounds_toArray, List.set_cons_zero, List.set_cons_succ]
  apply Ph.wpPh_g; (focus (intro w1 hS0; go_simp; first | exact rfl | exact ⟨rfl, Below.refl _ _⟩)); simp only [Act.put, List.setIfInBounds_toArray, List.set_cons_zero, List.set_cons_succ]
  refine Ph.wpPh_nil ?_; intro w3 hS
  refine Ph.at_end (by simp) ?_
  have hb33 := below_call hb22 (below_call (below_drew (Below.refl _ _)) hS)
  go_wp2
  go_ret
  exact ⟨rfl, hb33⟩

end Go.Proofs.Ytiklpifaaogcpaa
