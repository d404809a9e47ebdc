/- CodecBoth: its walk. -/
import Derived.Test.YtiklpifaaogcpaaKdw
import Derived.Test.YtiklpifaaogcpaaKrf
import Derived.WalkKit
import Derived.WalkLawsBesides
import Derived.WalkSpells
import Derived.Below
import Derived.Deep.RegionHeld3
import Derived.Deep.QuietTactic
import Derived.BigQuiet
import Derived.Deep.DeepCutAuto
import Derived.Deep.DeepMust
import Derived.KernelRfl
import Derived.Lib.Hide
import Derived.Outline
import Derived.RegionTactic
import Derived.StillTailTactics
import Derived.Laws.IdiomStrings
import Derived.Handy
namespace Go.Proofs.Ytiklpifaaogcpaa
open Go.RowKit Go.Cl Go.Wr Go.Kc
set_option maxRecDepth 100000
set_option linter.unusedVariables false
set_option linter.unusedSimpArgs false


set_option maxHeartbeats 1000000 in
theorem c_both (m : Mg) (hIn : m.In) (wp : Option Addr) (wc : Nat) (kp : Option Addr) (kc : Nat) (cut : Int) (h0 : 0 ≤ cut) (h1 : cut ≤ 65535) (more : ByteArray) (hmo : more.size ≤ 140737488355328) (w : World) (hW : LsW w wp wc m.W) (hK : LsS w kp kc m.K) :
    Calls Try.prog 5 #[.agg (m.cs wp wc kp kc), .int .u16 cut, .string more] w fun e w' => e = .returned (.bool true) ∧ Below w.heap.size w w' := by
  have HZ : Hid ((m.cs wp wc kp kc).size = 16 ∧ (m.cs wp wc kp kc).all (·.oneCell') = true) := Lib.hid ⟨rfl, by simp [Mg.cs, Value.oneCell']⟩
  obtain ⟨s, E, hsz, hRE⟩ : ∃ (s : ByteArray) (E : Int), s.size ≤ 6000 ∧ (∀ W', LsW W' wp wc m.W → LsS W' kp kc m.K → Calls Try.prog 11 #[.agg (m.cs wp wc kp kc)] W' fun e w' => e = .returned (.tuple #[.string s, .int .i64 E]) ∧ Below W'.heap.size W' w') := by
    by_cases hc : chkM m = 0
    · refine ⟨⟨(encM m).toArray⟩, 0, ?_, fun W' a b => (c_rencode m hIn wp wc kp kc W' a b).mono fun e w' h => ⟨h.1 hc, h.2.2⟩⟩
      have g1 := encF_le m hIn (chk_zero hc).2
      have g2 := encN_le hIn.kind
      rw [ba_sz]; unfold encM; rw [List.length_append]; omega
    · exact ⟨⟨#[]⟩, chkM m, by decide, fun W' a b => (c_rencode m hIn wp wc kp kc W' a b).mono fun e w' h => ⟨h.2.1 hc, h.2.2⟩⟩
  have HRE := Lib.hid hRE
  have HWK := Lib.hid (And.intro hW hK)
  clear hRE hW hK hIn
  generalize m.cs wp wc kp kc = A at *
  have hz := hp_alloc_new w (.cells A 30)
  have hba : Below w.heap.size w (w.alloc (.cells A 30)) := below_alloc (Below.refl _ _) _
  have HBA := Lib.hid hba
  have HZ0 := Lib.hid hz
  clear hz hba
  go_enter Try.func5, Try.ntmps5
  go_wp2_with fail
  refine (c_fixed _).mono ?_
  rintro e w0 ⟨rfl, hb0⟩
  have hb00 := below_call HBA.out hb0
  have k2 := hp_below hb0 HZ0.out
  have HWK0 := Lib.hid (And.intro (HWK.out.1.below hb00) (HWK.out.2.below hb00))
  clear hb0 HBA HZ0
  dsimp only
  iterate 13 go_step
  refine ld_op rfl (.tmp 3) rfl w.heap.size rfl A k2 HZ.out.1 ?_
  simp only [Act.put, List.setIfInBounds_toArray, List.set_cons_zero, List.set_cons_succ]
  go_wp2_with fail
  refine (HRE.out w0 HWK0.out.1 HWK0.out.2).mono ?_
  rintro e w1 ⟨rfl, hb1⟩
  have hb11 := below_call hb00 hb1
  clear hb1 k2 HWK0 hb00 HRE HWK HZ
  dsimp only
  have HH := Lib.hid (And.intro hsz (And.intro hmo (And.intro h0 h1)))
  by_cases hE : E = 0
  rotate_left
  · have hne : (E != 0) = true := by simpa using hE
    clear hE hsz hmo h0 h1
    go_wp2
    go_ret
    exact ⟨rfl, hb11⟩
  subst hE
  have hkr : 0 ≤ cut % ((s.size : Int) + 1) ∧ cut % ((s.size : Int) + 1) ≤ (s.size : Int) := by
    have g1 := Int.emod_nonneg cut (b := (s.size : Int) + 1) (by omega)
    have g2 := Int.emod_lt_of_pos cut (b := (s.size : Int) + 1) (by omega)
    omega
  have hd0 : ¬ ((s.size : Int) + 1 = 0) := by omega
  have hcat : ¬ 9223372036854775807 < s.size + more.size := by omega
  have D1 := Lib.hid (fun w' => c_decodes (s ++ more) (by rw [ByteArray.size_append]; unfold maxLen; omega) w')
  have hb64 : (s.size : Int) < 9223372036854775807 := by omega
  clear hsz hmo
  go_wp2_with fail
  refine (D1.out _).mono ?_; rintro e w2 ⟨rfl, hb2⟩
  have hb22 := below_call hb11 hb2
  clear hb2 hd0 hb64 hcat D1 h0 h1
  obtain ⟨K, hK⟩ : ∃ K : Int, K = cut % ((s.size : Int) + 1) := ⟨_, rfl⟩
  rw [← hK] at hkr
  simp only [← hK]
  clear hK
  obtain ⟨j, rfl⟩ : ∃ j : Nat, K = (j : Int) := ⟨K.toNat, by omega⟩
  have hjs : j ≤ s.size := by omega
  have HJ := Lib.hid hjs
  clear hkr
  have D2 := Lib.hid (fun w' => c_decodes (s.extract 0 j) (by rw [ByteArray.size_extract]; have := HH.out.1; unfold maxLen; omega) w')
  have D3 := Lib.hid (fun w' => c_decodes (s.extract 0 j ++ more) (by rw [ByteArray.size_append, ByteArray.size_extract]; have := HH.out.1; have := HH.out.2.1; unfold maxLen; omega) w')
  have D4 := Lib.hid (fun w' => c_decodes (s.extract j s.size) (by rw [ByteArray.size_extract]; have := HH.out.1; unfold maxLen; omega) w')
  have HC2 := Lib.hid (show ¬ 9223372036854775807 < (s.extract 0 j).size + more.size by rw [ByteArray.size_extract]; have := HH.out.1; have := HH.out.2.1; omega)
  go_wp2_with fail
  refine (D2.out _).mono ?_; rintro e w3 ⟨rfl, hb3⟩
  have hb33 := below_call hb22 hb3
  clear hb3
  have hcat2 : ¬ 9223372036854775807 < j + more.size := by have := HH.out.1; have := HH.out.2.1; omega
  have hcat3 : ¬ 9223372036854775807 < min j s.size + more.size := by have := HH.out.1; have := HH.out.2.1; omega
  go_wp2_with fail
  refine (D3.out _).mono ?_; rintro e w4 ⟨rfl, hb4⟩
  have hb44 := below_call hb33 hb4
  clear hb4
  go_wp2_with fail
  refine (D4.out _).mono ?_; rintro e w5 ⟨rfl, hb5⟩
  go_wp2
  go_ret
  exact ⟨rfl, below_call hb44 hb5⟩

end Go.Proofs.Ytiklpifaaogcpaa
