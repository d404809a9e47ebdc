/- The closures of the lists. -/
import Derived.Test.YtiklpifaaogcpaaKm
import Derived.WalkKit
import Derived.WalkLawsBesides
import Derived.WalkSpells
import Derived.Below
import Derived.Deep.RegionHeld3
import Derived.Deep.QuietTactic
import Derived.BigQuiet
import Derived.Deep.DeepCutAuto
import Derived.Deep.DeepMust
import Derived.KernelRfl
import Derived.Lib.Hide
import Derived.Outline
import Derived.RegionTactic
import Derived.StillTailTactics
import Derived.Laws.IdiomStrings
import Derived.Handy
namespace Go.Proofs.Ytiklpifaaogcpaa
open Go.RowKit Go.Cl Go.Wr Go.Kc
set_option maxRecDepth 100000
set_option linter.unusedVariables false
set_option linter.unusedSimpArgs false


def set3 (cs : Array Value) (k : Nat) (y : Wt) : Array Value := ((cs.setIfInBounds k (.string y.k)).setIfInBounds (k + 1) (.bool y.h)).setIfInBounds (k + 2) (.string y.d)
section
variable {σ : Type} (Λ : Lane σ)
theorem c_elem (z : Nat) (col : Nat → Nat) (w : World) (s : σ) (i g k : Nat) (cs : Array Value) (T : TypeId) (x : Wt) (hS : Λ.LS col w s) (hZ : Blk col 6 w z #[.iface Λ.lt Λ.lv] 97) (hB : Blk col i w g cs T) (hi : i ≠ 1) (hi6 : i ≠ 6) (hk : cs[k]? = some (.string x.k)) (hk1 : cs[k + 1]? = some (.bool x.h)) (hk2 : cs[k + 2]? = some (.string x.d)) (hf : Λ.fit (elemT Λ.o x s).2) :
    Calls Try.prog 52 #[.pointer (some ⟨g, k, none⟩), .pointer (some ⟨z, 0, none⟩)] w (LPost Λ.LS [1, i] col w (elemT Λ.o x s) (fun y c w' => Blk c i w' g (set3 cs k y) T) (Kep g i T cs.size)) := by
  have hmt := Λ.mtext
  have het := Λ.etext
  have hnt := Λ.ntext
  have hz := hp_cell hZ.hp 0
  have HZ := Lib.hid hZ
  have HS := Lib.hid hS
  have HB := Lib.hid hB
  have HI := Lib.hid hi
  have HI6 := Lib.hid hi6
  have HK := Lib.hid hk
  have HK1 := Lib.hid hk1
  have HK2 := Lib.hid hk2
  have HF := Lib.hid hf
  clear hi hi6 hk hk1 hk2 hf hS hB hZ
  simp only [List.getElem?_toArray, List.getElem?_cons_zero] at hz
  go_enter Try.func52, Try.ntmps52
  go_wp2
  refine Ph.region_at (by kernel_rfl) ?_
  refine Ph.at_quiet 7 (by kernel_rfl) ?_
  simp only [List.take_succ_cons, List.take_zero, List.drop_succ_cons, List.drop_zero]
  repeat ((first | (apply Ph.wpPh_g; (focus (intro wq hS0; have hbq := below_call (below_drew (Below.refl _ _)) hS0; have hzq := cell_below hbq hz; go_simp; first | exact rfl | exact ⟨rfl, Below.refl _ _⟩)))); simp only [Act.put, List.setIfInBounds_toArray, List.set_cons_zero, List.set_cons_succ])
  refine Ph.wpPh_nil ?_; intro w2 hSx
  have hb2 := below_call (below_drew (Below.refl _ _)) hSx
  clear hSx
  refine Ph.at_op rfl (by kernel_rfl) ?_

  go_wp2_with fail
  refine (Λ.ctext col w2 s i g k cs T x.k 32 (Λ.kept HS.out (Mv.of_below (S := []) hb2) (by simp)) (HB.out.kept (Mv.of_below (S := []) hb2) (by simp)) HI.out HK.out (fit_left (fun _ => mono_bind (mono_value Λ _ _) fun _ => mono_ret _) HF.out)).mono ?_
  rintro e w3 ⟨c3, hm3, ⟨k', hr, rfl, hS3, hB3⟩ | ⟨er, hr, h0, rfl, hE⟩⟩
  rotate_left
  · exact ⟨rfl, .fail ((Mv.of_below hb2).trans hm3) (bind_error hr) h0 hE⟩
  have hM3 := (Mv.of_below (S := [1, i]) (col := col) hb2).trans hm3
  have hv : elemT Λ.o x s = ((valueT Λ.o x.h x.d).bind fun v => .ret ⟨k', v.1, v.2⟩) (Λ.o.text x.k 32 s).2 := bind_ok hr
  have HF' := HF.out
  rw [hv] at HF'
  have HF2 := Lib.hid HF'; clear HF' HF
  have HV := Lib.hid hv; clear hv
  have HS3 := Lib.hid hS3; clear hS3
  have hZ3 := HZ.out.kept hM3 (by have := HI6.out; simp; omega)
  have hz3 := hp_cell hZ3.hp 0
  simp only [List.getElem?_toArray, List.getElem?_cons_zero] at hz3
  have hg1 := get_set_ne (cs := cs) (k := k) (j := k + 1) (v := .string k') (by omega)
  rw [HK1.out] at hg1
  have hg2 := get_set_ne (cs := cs) (k := k) (j := k + 2) (v := .string k') (by omega)
  rw [HK2.out] at hg2
  have HG := Lib.hid (And.intro hg1 hg2); clear hg1 hg2
  clear hm3 hz
  go_wp2
  refine Ph.at_end (by simp) ?_
  go_wp2
  refine Ph.region_at (by kernel_rfl) ?_
  refine Ph.at_quiet 4 (by kernel_rfl) ?_
  simp only [List.take_succ_cons, List.take_zero, List.drop_succ_cons, List.drop_zero]
  repeat ((first | (apply Ph.wpPh_g; (focus (intro wq hS0; have hbq := below_call (below_drew (Below.refl _ _)) hS0; have hzq := cell_below hbq hz3; go_simp; first | exact rfl | exact ⟨rfl, Below.refl _ _⟩)))); simp only [Act.put, List.setIfInBounds_toArray, List.set_cons_zero, List.set_cons_succ])
  refine Ph.wpPh_nil ?_; intro w4 hSx
  have hb4 := below_call (below_drew (Below.refl _ _)) hSx
  clear hSx
  refine Ph.at_op rfl (by kernel_rfl) ?_

  go_wp2_with fail
  refine (c_value Λ c3 w4 _ i g (k + 1) _ T x.h x.d (Λ.kept HS3.out (Mv.of_below (S := []) hb4) (by simp)) (hB3.kept (Mv.of_below (S := []) hb4) (by simp)) HI.out HG.out.1 HG.out.2 (fit_left (fun _ => mono_ret _) HF2.out)).mono ?_
  rintro e w5 ⟨c5, hm5, ⟨d', hr5, rfl, hS5, hB5⟩ | ⟨er, hr5, h0, rfl, hE⟩⟩
  rotate_left
  · exact ⟨rfl, .fail ((hM3.after_below hb4).trans hm5) (HV.out.trans (bind_error hr5)) h0 (by simpa [Kep] using hE)⟩
  go_wp2
  refine Ph.at_end (by simp) ?_
  go_wp2
  refine bodyPost_end (results_none rfl _ _ _) rfl ?_
  exact .done ((hM3.after_below hb4).trans hm5) (HV.out.trans (bind_ok hr5)) hS5 hB5
theorem c_key (z : Nat) (col : Nat → Nat) (w : World) (s : σ) (i g k : Nat) (cs : Array Value) (T : TypeId) (x : ByteArray) (hS : Λ.LS col w s) (hZ : Blk col 6 w z #[.iface Λ.lt Λ.lv] 97) (hB : Blk col i w g cs T) (hi : i ≠ 1) (hi6 : i ≠ 6) (hk : cs[k]? = some (.string x)) (hf : Λ.fit (keyT Λ.o x s).2) :
    Calls Try.prog 72 #[.pointer (some ⟨g, k, none⟩), .pointer (some ⟨z, 0, none⟩)] w (LPost Λ.LS [1, i] col w (keyT Λ.o x s) (fun y c w' => Blk c i w' g (cs.setIfInBounds k (.string y)) T) (Kep g i T cs.size)) := by
  have hmt := Λ.mtext
  have het := Λ.etext
  have hz := hp_cell hZ.hp 0
  simp only [List.getElem?_toArray, List.getElem?_cons_zero] at hz
  have HC := Lib.hid (Λ.ctext col w s i g k cs T x 32 hS hB hi hk hf)
  clear hS hB hi hk hf hZ hi6
  go_enter Try.func72, Try.ntmps72
  go_wp2_with fail
  refine HC.out.mono ?_
  rintro e w3 ⟨c3, hm3, ⟨k', hr, rfl, hS3, hB3⟩ | ⟨er, hr, h0, rfl, hE⟩⟩
  rotate_left
  · exact ⟨rfl, .fail hm3 (pair_er hr) h0 hE⟩
  go_wp2
  refine bodyPost_end (results_none rfl _ _ _) rfl ?_
  exact .done hm3 (pair_ok hr) hS3 hB3
end

end Go.Proofs.Ytiklpifaaogcpaa
