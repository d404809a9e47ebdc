/- Texts laid together: Ke Kli. -/
import Derived.Test.YtiklpifaaogcpaaKm
import Derived.WalkKit
import Derived.WalkLawsBesides
import Derived.WalkSpells
import Derived.Below
import Derived.Deep.RegionHeld3
import Derived.Deep.QuietTactic
import Derived.BigQuiet
import Derived.Deep.DeepCutAuto
import Derived.Deep.DeepMust
import Derived.KernelRfl
import Derived.Lib.Hide
import Derived.Outline
import Derived.RegionTactic
import Derived.StillTailTactics
import Derived.Laws.IdiomStrings
import Derived.Handy
namespace Go.Proofs.Ytiklpifaaogcpaa
open Go.RowKit Go.Cl Go.Wr Go.Kc
set_option maxRecDepth 100000
set_option linter.unusedVariables false
set_option linter.unusedSimpArgs false


def set3 (cs : Array Value) (k : Nat) (y : Wt) : Array Value := ((cs.setIfInBounds k (.string y.k)).setIfInBounds (k + 1) (.bool y.h)).setIfInBounds (k + 2) (.string y.d)
section
variable {σ : Type} (Λ : Lane σ)
theorem c_elem (z : Nat) (col : Nat → Nat) (w : World) (s : σ) (i g k : Nat) (cs : Array Value) (T : TypeId) (x : Wt) (hS : Λ.LS col w s) (hZ : Blk col 6 w z #[.iface Λ.lt Λ.lv] 97) (hB : Blk col i w g cs T) (hi : i ≠ 1) (hi6 : i ≠ 6) (hk : cs[k]? = some (.string x.k)) (hk1 : cs[k + 1]? = some (.bool x.h)) (hk2 : cs[k + 2]? = some (.string x.d)) (hf : Λ.fit (elemT Λ.o x s).2) :
    Calls Try.prog 52 #[.pointer (some ⟨g, k, none⟩), .pointer (some ⟨z, 0, none⟩)] w (LPost Λ.LS [1, i] col w (elemT Λ.o x s) (fun y c w' => Blk c i w' g (set3 cs k y) T) (Kep g i T cs.size)) := by
  have hmt := Λ.mtext
  have het := Λ.etext
  have hnt := Λ.ntext
  have hz := hp_cell hZ.hp 0
  have HZ := Lib.hid hZ
  have HS := Lib.hid hS
  have HB := Lib.hid hB
  have HI := Lib.hid hi
  have HI6 := Lib.hid hi6
  have HK := Lib.hid hk
  have HK1 := Lib.hid hk1
  have HK2 := Lib.hid hk2
  have HF := Lib.hid hf
  clear hi hi6 hk hk1 hk2 hf hS hB hZ
  simp only [List.getElem?_toArray, List.getElem?_cons_zero] at hz
  go_enter Try.func52, Try.ntmps52
  go_wp2
  refine Ph.region_at (by kernel_rfl) ?_
  refine Ph.at_quiet 7 (by kernel_rfl) ?_
  simp only [List.take_succ_cons, List.take_zero, List.drop_succ_cons, List.drop_zero]
  repeat ((first | (apply Ph.wpPh_g; (focus (intro wq hS0; have hbq := below_call (below_drew (Below.refl _ _)) hS0; have hzq := cell_below hbq hz; go_simp; first | exact rfl | exact ⟨rfl, Below.refl _ _⟩)))); simp only [Act.put, List.setIfInBounds_toArray, List.set_cons_zero, List.set_cons_succ])
  refine Ph.wpPh_nil ?_; intro w2 hSx
  have hb2 := below_call (below_drew (Below.refl _ _)) hSx
  clear hSx
  refine Ph.at_op rfl (by kernel_rfl) ?_

  go_wp2_with fail
  refine (Λ.ctext col w2 s i g k cs T x.k 32 (Λ.kept HS.out (Mv.of_below (S := []) hb2) (by simp)) (HB.out.kept (Mv.of_below (S := []) hb2) (by simp)) HI.out HK.out (fit_left (fun _ => mono_bind (mono_value Λ _ _) fun _ => mono_ret _) HF.out)).mono ?_
  rintro e w3 ⟨c3, hm3, ⟨k', hr, rfl, hS3, hB3⟩ | ⟨er, hr, h0, rfl, hE⟩⟩
  rotate_left
  · exact ⟨rfl, .fail ((Mv.of_below hb2).trans hm3) (bind_error hr) h0 hE⟩
  have hM3 := (Mv.of_below (S := [1, i]) (col := col) hb2).trans hm3
  have hv : elemT Λ.o x s = ((valueT Λ.o x.h x.d).bind fun v => .ret ⟨k', v.1, v.2⟩) (Λ.o.text x.k 32 s).2 := bind_ok hr
  have HF' := HF.out
  rw [hv] at HF'
  have HF2 := Lib.hid HF'; clear HF' HF
  have HV := Lib.hid hv; clear hv
  have HS3 := Lib.hid hS3; clear hS3
  have hZ3 := HZ.out.kept hM3 (by have := HI6.out; simp; omega)
  have hz3 := hp_cell hZ3.hp 0
  simp only [List.getElem?_toArray, List.getElem?_cons_zero] at hz3
  have hg1 := get_set_ne (cs := cs) (k := k) (j := k + 1) (v := .string k') (by omega)
  rw [HK1.out] at hg1
  have hg2 := get_set_ne (cs := cs) (k := k) (j := k + 2) (v := .string k') (by omega)
  rw [HK2.out] at hg2
  have HG := Lib.hid (And.intro hg1 hg2); clear hg1 hg2
  clear hm3 hz
  go_wp2
  refine Ph.at_end (by simp) ?_
  go_wp2
  refine Ph.region_at (by kernel_rfl) ?_
  refine Ph.at_quiet 4 (by kernel_rfl) ?_
  simp only [List.take_succ_cons, List.take_zero, List.drop_succ_cons, List.drop_zero]
  repeat ((first | (apply Ph.wpPh_g; (focus (intro wq hS0; have hbq := below_call (below_drew (Below.refl _ _)) hS0; have hzq := cell_below hbq hz3; go_simp; first | exact rfl | exact ⟨rfl, Below.refl _ _⟩)))); simp only [Act.put, List.setIfInBounds_toArray, List.set_cons_zero, List.set_cons_succ])
  refine Ph.wpPh_nil ?_; intro w4 hSx
  have hb4 := below_call (below_drew (Below.refl _ _)) hSx
  clear hSx
  refine Ph.at_op rfl (by kernel_rfl) ?_

  go_wp2_with fail
  refine (c_value Λ c3 w4 _ i g (k + 1) _ T x.h x.d (Λ.kept HS3.out (Mv.of_below (S := []) hb4) (by simp)) (hB3.kept (Mv.of_below (S := []) hb4) (by simp)) HI.out HG.out.1 HG.out.2 (fit_left (fun _ => mono_ret _) HF2.out)).mono ?_
  rintro e w5 ⟨c5, hm5, ⟨d', hr5, rfl, hS5, hB5⟩ | ⟨er, hr5, h0, rfl, hE⟩⟩
  rotate_left
  · exact ⟨rfl, .fail ((hM3.after_below hb4).trans hm5) (HV.out.trans (bind_error hr5)) h0 (by simpa [Kep] using hE)⟩
  go_wp2
  refine Ph.at_end (by simp) ?_
  go_wp2
  refine bodyPost_end (results_none rfl _ _ _) rfl ?_
  exact .done ((hM3.after_below hb4).trans hm5) (HV.out.trans (bind_ok hr5)) hS5 hB5
theorem c_key (z : Nat) (col : Nat → Nat) (w : World) (s : σ) (i g k : Nat) (cs : Array Value) (T : TypeId) (x : ByteArray) (hS : Λ.LS col w s) (hZ : Blk col 6 w z #[.iface Λ.lt Λ.lv] 97) (hB : Blk col i w g cs T) (hi : i ≠ 1) (hi6 : i ≠ 6) (hk : cs[k]? = some (.string x)) (hf : Λ.fit (keyT Λ.o x s).2) :
    Calls Try.prog 72 #[.pointer (some ⟨g, k, none⟩), .pointer (some ⟨z, 0, none⟩)] w (LPost Λ.LS [1, i] col w (keyT Λ.o x s) (fun y c w' => Blk c i w' g (cs.setIfInBounds k (.string y)) T) (Kep g i T cs.size)) := by
  have hmt := Λ.mtext
  have het := Λ.etext
  have hz := hp_cell hZ.hp 0
  simp only [List.getElem?_toArray, List.getElem?_cons_zero] at hz
  have HC := Lib.hid (Λ.ctext col w s i g k cs T x 32 hS hB hi hk hf)
  clear hS hB hi hk hf hZ hi6
  go_enter Try.func72, Try.ntmps72
  go_wp2_with fail
  refine HC.out.mono ?_
  rintro e w3 ⟨c3, hm3, ⟨k', hr, rfl, hS3, hB3⟩ | ⟨er, hr, h0, rfl, hE⟩⟩
  rotate_left
  · exact ⟨rfl, .fail hm3 (pair_er hr) h0 hE⟩
  go_wp2
  refine bodyPost_end (results_none rfl _ _ _) rfl ?_
  exact .done hm3 (pair_ok hr) hS3 hB3
end

end Go.Proofs.Ytiklpifaaogcpaa

namespace Go.Proofs.Ytiklpifaaogcpaa
open Go.RowKit Go.Cl Go.Wr Go.Kc
set_option maxRecDepth 100000
set_option linter.unusedVariables false
set_option linter.unusedSimpArgs false


theorem Try.info49 : (Try.prog.info? 49).map (fun i => (i.zero, i.size, i.bytes)) = some (some (.agg #[.string ⟨#[]⟩, .bool false, .string ⟨#[]⟩]), 3, 40) := by kernel_rfl
theorem Try.info9 : (Try.prog.info? 9).map (fun i => (i.zero, i.size, i.bytes)) = some (some (.string ⟨#[]⟩), 1, 16) := by kernel_rfl
def madeW (n : Nat) : Array Value := madeCells #[.string ⟨#[]⟩, .bool false, .string ⟨#[]⟩] (n * 3)
def madeS (n : Nat) : Array Value := madeCells #[.string ⟨#[]⟩] n
theorem make_W (W : World) (n : Nat) (hn : n ≤ 8) : (Instr.makeSlice 27 (.int .i64 (n : Int)) (.int .i64 (n : Int))).run Try.prog W = .ok (.slice (some ⟨W.heap.size, 0, none⟩) n n) (W.alloc (.cells (madeW n) 49)) := by
  obtain ⟨i0, hi, hz0, hz1, hz2⟩ := info_parts Try.info49
  have h := run_make (P := Try.prog) W 27 49 i0 _ Try.underlying27 hi hz0 .i64 .i64 n n (by omega) (Int.le_refl _) (by rw [hz2]; omega) (by omega)
  rw [hz1] at h
  unfold madeW
  simpa [Value.cells] using h
theorem make_S (W : World) (n : Nat) (hn : n ≤ 8) : (Instr.makeSlice 28 (.int .i64 (n : Int)) (.int .i64 (n : Int))).run Try.prog W = .ok (.slice (some ⟨W.heap.size, 0, none⟩) n n) (W.alloc (.cells (madeS n) 9)) := by
  obtain ⟨i0, hi, hz0, hz1, hz2⟩ := info_parts Try.info9
  have h := run_make (P := Try.prog) W 28 9 i0 _ Try.underlying28 hi hz0 .i64 .i64 n n (by omega) (Int.le_refl _) (by rw [hz2]; omega) (by omega)
  rw [hz1] at h
  unfold madeS
  simpa [Value.cells] using h
theorem madeW_list (n : Nat) (hn : n ≤ 8) : (madeW n).toList = (List.replicate n Wt.zero).flatMap encW ++ [] := by
  rcases (by omega : n = 0 ∨ n = 1 ∨ n = 2 ∨ n = 3 ∨ n = 4 ∨ n = 5 ∨ n = 6 ∨ n = 7 ∨ n = 8) with rfl | rfl | rfl | rfl | rfl | rfl | rfl | rfl | rfl <;> kernel_rfl
theorem madeS_list (n : Nat) (hn : n ≤ 8) : (madeS n).toList = (List.replicate n emp).flatMap encS ++ [] := by
  rcases (by omega : n = 0 ∨ n = 1 ∨ n = 2 ∨ n = 3 ∨ n = 4 ∨ n = 5 ∨ n = 6 ∨ n = 7 ∨ n = 8) with rfl | rfl | rfl | rfl | rfl | rfl | rfl | rfl | rfl <;> kernel_rfl
theorem set_at (A B : List Value) (u v : Value) (cs : Array Value) (h : cs.toList = A ++ u :: B) : (cs.setIfInBounds A.length v).toList = A ++ v :: B := by
  rw [Array.toList_setIfInBounds, h, List.set_append_right _ _ (Nat.le_refl _), Nat.sub_self]; rfl
theorem get_at (A B : List Value) (u : Value) (cs : Array Value) (h : cs.toList = A ++ u :: B) : cs[A.length]? = some u := by
  rw [← Array.getElem?_toList, h, List.getElem?_append_right (Nat.le_refl _), Nat.sub_self]; rfl
theorem set3_at (A B : List Value) (x y : Wt) (cs : Array Value) (h : cs.toList = A ++ encW x ++ B) : (set3 cs A.length y).toList = A ++ encW y ++ B := by
  simp only [encW, List.append_assoc, List.cons_append, List.nil_append] at h ⊢
  have h1 := set_at A _ _ (.string y.k) cs h
  have e1 : A ++ Value.string y.k :: Value.bool x.h :: Value.string x.d :: B = (A ++ [Value.string y.k]) ++ Value.bool x.h :: Value.string x.d :: B := by simp
  have h2 := set_at _ _ _ (.bool y.h) _ (h1.trans e1)
  have e2 : (A ++ [Value.string y.k]) ++ Value.bool y.h :: Value.string x.d :: B = (A ++ [Value.string y.k, Value.bool y.h]) ++ Value.string x.d :: B := by simp
  have h3 := set_at _ _ _ (.string y.d) _ (h2.trans e2)
  simpa [set3] using h3
theorem get3_at (A B : List Value) (x : Wt) (cs : Array Value) (h : cs.toList = A ++ encW x ++ B) : cs[A.length]? = some (.string x.k) ∧ cs[A.length + 1]? = some (.bool x.h) ∧ cs[A.length + 2]? = some (.string x.d) := by
  simp only [encW, List.append_assoc, List.cons_append, List.nil_append] at h
  refine ⟨get_at A _ _ cs h, ?_, ?_⟩
  · have := get_at (A ++ [.string x.k]) (.string x.d :: B) (.bool x.h) cs (by rw [h]; simp)
    simpa using this
  · have := get_at (A ++ [.string x.k, .bool x.h]) B (.string x.d) cs (by rw [h]; simp)
    simpa using this
theorem bind_ret_self {σ α : Type} (p : M σ α) (s : σ) : p.bind (fun r => M.ret r) s = p s := by
  unfold M.bind M.ret
  generalize p s = r
  obtain ⟨x, s'⟩ := r
  cases x <;> rfl
section
variable {σ α : Type} {one : α → M σ α} {R0 : Except Nat (List α) × σ} {done rest : List α} {x y : α} {s : σ}
theorem map_step (h : R0 = ((mapT one (x :: rest)).bind fun r => .ret (done ++ r)) s) (hx : (one x s).1 = .ok y) : R0 = ((mapT one rest).bind fun r => .ret ((done ++ [y]) ++ r)) (one x s).2 := by
  rw [h]
  show (((one x).bind _).bind _) s = _
  rw [bind_assoc, bind_ok hx, bind_assoc]
  simp only [ret_bind, List.append_assoc, List.cons_append, List.nil_append]
theorem map_err {e : Nat} (h : R0 = ((mapT one (x :: rest)).bind fun r => .ret (done ++ r)) s) (hx : (one x s).1 = .error e) : R0 = (.error e, (one x s).2) := by
  rw [h]
  show (((one x).bind _).bind _) s = _
  rw [bind_assoc, bind_error hx]
theorem map_end (h : R0 = ((mapT one []).bind fun r => .ret (done ++ r)) s) : R0 = (.ok done, s) := by
  rw [h]
  show (((M.ret []).bind _)) s = _
  rw [ret_bind, List.append_nil]; rfl
theorem map_fit {fit : σ → Prop} (hm : ∀ x, Mono fit (one x)) (hmm : ∀ l, Mono fit (mapT one l)) (h : R0 = ((mapT one (x :: rest)).bind fun r => .ret (done ++ r)) s) (hf : fit R0.2) : fit (one x s).2 := by
  rw [h] at hf
  have h1 := fit_left (fun a => mono_ret _) hf
  exact fit_left (fun a => mono_bind (hmm _) fun _ => mono_ret _) h1
end
/-- What is known behind some rounds of a list. -/
def LInv {σ α : Type} (LS : (Nat → Nat) → World → σ → Prop) (one : α → M σ α) (enc : α → List Value) (R0 : Except Nat (List α) × σ) (S : List Nat) (col : Nat → Nat) (w : World) (x : Nat) (csx : Array Value) (z : Nat) (iv : Value) (g : Nat) (el : TypeId) (ow N : Nat) (tl : List Value) (t : Value) (wr : World) : Prop :=
  ∃ (j : Nat) (c : Nat → Nat) (sj : σ) (done rest : List α), t = .int .i64 j ∧ done.length = j ∧ j + rest.length = N ∧ R0 = ((mapT one rest).bind fun r => .ret (done ++ r)) sj ∧ LS c wr sj ∧ Mv S col w c wr ∧ Blk c 2 wr x csx 30 ∧ Blk c 6 wr z #[iv] 97 ∧ ∃ cur, Blk c ow wr g cur el ∧ cur.toList = (done ++ rest).flatMap enc ++ tl
section
variable {σ : Type} (Λ : Lane σ)

theorem c_listW (z : Nat) (col : Nat → Nat) (w : World) (s : σ) (x k : Nat) (cs : Array Value) (L : List Wt) (wp : Option Addr) (wc : Nat) (hS : Λ.LS col w s) (hZ : Blk col 6 w z #[.iface Λ.lt Λ.lv] 97) (hX : Blk col 2 w x cs 30) (hk : cs[k]? = some (.slice wp L.length wc)) (hrow : Row col 3 w 49 3 (.slice wp L.length wc) L.length (L.flatMap encW)) (hL : L.length ≤ 9223372036854775807) (hf : Λ.fit (listT Λ.o (elemT Λ.o) Wt.zero L s).2) :
    Calls Try.prog 51 #[.iface Λ.lt Λ.lv, .pointer (some ⟨x, k, none⟩), .func (.func 52) #[] #[.pointer (some ⟨z, 0, none⟩)]] w (LPost Λ.LS [1, 2, 4, 3] col w (listT Λ.o (elemT Λ.o) Wt.zero L s) (fun L' c w' => ∃ wp wc, Blk c 2 w' x (cs.setIfInBounds k (.slice wp L'.length wc)) 30 ∧ Row c 3 w' 49 3 (.slice wp L'.length wc) L'.length (L'.flatMap encW)) (Kep x 2 30 cs.size)) := by
  have HUN : (listT Λ.o (elemT Λ.o) Wt.zero L s = ((Λ.o.num (L.length : Int)).bind fun n => if n < 1 ∨ 8 < n then .fail 11 else mapT (elemT Λ.o) (if L.length = 0 then List.replicate n.toNat Wt.zero else L)) s) := rfl
  rw [HUN] at hf
  generalize hN0 : L.length = N0 at *
  have HF := Lib.hid hf; clear hf
  have HN0 := Lib.hid hN0; clear hN0
  have HUN' := Lib.hid HUN; clear HUN
  have hck := hp_cell hX.hp k
  rw [hk] at hck
  have hm := Λ.mnum
  have he := Λ.enum
  have hb : Below w.heap.size w (w.alloc (.cells #[.int .i64 (N0 : Int)] 2)) := below_alloc (Below.refl _ _) _
  have hn : Blk (paint col w 4) 4 (w.alloc (.cells #[.int .i64 (N0 : Int)] 2)) w.heap.size #[.int .i64 (N0 : Int)] 2 := ⟨hp_alloc_new _ _, paint_new (Nat.le_refl _)⟩
  have hm0 : Mv [1, 2, 4, 3] col w (paint col w 4) _ := Mv.new hb 4
  have HS := Lib.hid (Λ.kept hS (Mv.new (S := []) hb 4) (by simp))
  have HX0 := Lib.hid (hX.kept (Mv.new (S := []) hb 4) (by simp))
  have HR0 := Lib.hid (hrow.kept (Mv.new (S := []) hb 4) (by simp))
  have HZ0 := Lib.hid (hZ.kept (Mv.new (S := []) hb 4) (by simp))
  have HK := Lib.hid hk
  have HC : Hid (∀ W, Λ.LS (paint col w 4) W s → Blk (paint col w 4) 4 W w.heap.size #[.int .i64 (N0 : Int)] 2 → Calls Try.prog Λ.fnum #[Λ.recv, .pointer (some ⟨w.heap.size, 0, none⟩)] W (LPost Λ.LS [1, 4] (paint col w 4) W (Λ.o.num N0 s) (fun n' col' w' => Blk col' 4 w' w.heap.size (#[Value.int .i64 (N0 : Int)].setIfInBounds 0 (.int .i64 n')) 2) (Kep w.heap.size 4 2 1))) := Lib.hid fun W h1 h2 => Λ.cnum _ W s 4 _ 0 _ 2 N0 h1 h2 (by decide) rfl (by omega) (by omega) (fit_left (fun n => by split; exact mono_fail _; exact mono_map Λ (mono_elem Λ) _) HF.out)
  clear hk hS hb hX hrow hZ
  generalize hz : w.heap.size = y at *
  generalize paint col w 4 = c0 at *
  go_enter Try.func51, Try.ntmps51
  go_wp2_with fail
  refine (HC.out _ HS.out hn).mono ?_
  rintro e w1 ⟨c1, hm1, ⟨n', hr, rfl, hS1, hB1⟩ | ⟨er, hr, h0, rfl, hE⟩⟩
  rotate_left
  · exact ⟨rfl, .fail (hm0.trans (hm1.sub (by simp))) (HUN'.out.trans (bind_error hr)) h0 ⟨_, HX0.out.kept hm1 (by decide), rfl⟩⟩
  have hM1 := hm0.trans (hm1.sub (by simp))
  have HV : Hid (listT Λ.o (elemT Λ.o) Wt.zero L s = (if n' < 1 ∨ 8 < n' then .fail 11 else mapT (elemT Λ.o) (if N0 = 0 then List.replicate n'.toNat Wt.zero else L)) (Λ.o.num N0 s).2) := Lib.hid (HUN'.out.trans (bind_ok hr))
  have HX1 := Lib.hid (HX0.out.kept hm1 (by decide))
  have HR1 := Lib.hid (HR0.out.kept hm1 (by decide))
  have HZ1 := Lib.hid (HZ0.out.kept hm1 (by decide))
  have HS1 := Lib.hid hS1
  have cy := hp_cell hB1.hp 0
  have HHM := Lib.hid hM1
  clear hm1 hm0 hr hn hM1 hS1
  by_cases hlo : n' < 1
  · go_wp2
    exact ⟨rfl, .fail HHM.out (HV.out.trans (by rw [if_pos (.inl hlo)]; rfl)) (by decide) ⟨_, HX1.out, rfl⟩⟩
  by_cases hhi : 8 < n'
  · go_wp2
    exact ⟨rfl, .fail HHM.out (HV.out.trans (by rw [if_pos (.inr hhi)]; rfl)) (by decide) ⟨_, HX1.out, rfl⟩⟩
  have HV1 : Hid (listT Λ.o (elemT Λ.o) Wt.zero L s = mapT (elemT Λ.o) (if N0 = 0 then List.replicate n'.toNat Wt.zero else L) (Λ.o.num N0 s).2) := Lib.hid (HV.out.trans (by rw [if_neg (by omega)]))
  have HF1 : Hid (Λ.fit (mapT (elemT Λ.o) (if N0 = 0 then List.replicate n'.toNat Wt.zero else L) (Λ.o.num N0 s).2).2) := Lib.hid (by rw [← HV1.out, HUN'.out]; exact HF.out)
  clear HV HF HUN' HC HS HX0 HR0 HZ0
  generalize (Λ.o.num N0 s).2 = s1 at *
  by_cases h0 : N0 = 0
  · obtain ⟨N, hN⟩ : ∃ N : Nat, n' = N := ⟨n'.toNat, by omega⟩
    subst hN
    have hN8 : N ≤ 8 := by omega
    have hN1 : 0 < N := by omega
    have hmk := fun W => make_W W N hN8
    have hL0 : (List.replicate N (Wt.zero)).length = N := List.length_replicate
    have hml := madeW_list N hN8
    have HV : Hid (listT Λ.o (elemT Λ.o) Wt.zero L s = mapT (elemT Λ.o) (List.replicate N Wt.zero) s1) := Lib.hid (by have := HV1.out; rw [if_pos h0] at this; exact this)
    have HF : Hid (Λ.fit (mapT (elemT Λ.o) (List.replicate N Wt.zero) s1).2) := Lib.hid (by have := HF1.out; rw [if_pos h0] at this; exact this)
    clear HV1 HF1
    subst h0
    generalize List.replicate N (Wt.zero) = L0 at *
    have HML := Lib.hid hml; clear hml
    generalize madeW N = cur at *
    have hxf := hp_free HX1.out.hp k
    have hxk := hp_cell HX1.out.hp k
    rw [HK.out] at hxk
    have hlt : x < w1.heap.size := hp_lt HX1.out.hp
    have hne : ¬ x = w1.heap.size := by omega
    have hne2 : ¬ w1.heap.size = x := by omega
    have hst : Mv [2] c1 w1 c1 (w1.setCell ⟨x, k, none⟩ (.slice (some ⟨w1.heap.size, 0, none⟩) N N)) := mv_set Mv.refl (p := ⟨x, k, none⟩) (by rw [HX1.out.col]; simp) _
    have hsz : (w1.setCell ⟨x, k, none⟩ (.slice (some ⟨w1.heap.size, 0, none⟩) N N)).heap.size = w1.heap.size := by simp [World.setCell]
    have hxa : Blk c1 2 (w1.setCell ⟨x, k, none⟩ (.slice (some ⟨w1.heap.size, 0, none⟩) N N)) x (cs.setIfInBounds k (.slice (some ⟨w1.heap.size, 0, none⟩) N N)) 30 := ⟨hp_set HX1.out.hp _, HX1.out.col⟩
    have hza := HZ1.out.kept hst (by decide)
    have hsa := Λ.kept HS1.out hst (by decide)
    have hma := HHM.out.trans (hst.sub (by simp))
    have HKX : Hid ((cs.setIfInBounds k (.slice (some ⟨w1.heap.size, 0, none⟩) N N))[k]? = some (.slice (some ⟨w1.heap.size, 0, none⟩) N N)) := Lib.hid (get_set HK.out)
    generalize hcsx : cs.setIfInBounds k (.slice (some ⟨w1.heap.size, 0, none⟩) N N) = csx at hxa HKX
    have HCX : Hid (cs.setIfInBounds k (.slice (some ⟨w1.heap.size, 0, none⟩) N N) = csx) := Lib.hid hcsx
    clear hcsx hst
    generalize hws : w1.setCell ⟨x, k, none⟩ (.slice (some ⟨w1.heap.size, 0, none⟩) N N) = ws at *
    have hbA : Below ws.heap.size ws (ws.alloc (.cells cur 49)) := below_alloc (Below.refl _ _) _
    have HC2 : Hid (Blk (paint c1 ws 3) 3 (ws.alloc (.cells cur 49)) w1.heap.size cur 49) := Lib.hid ⟨by rw [← hsz]; exact hp_alloc_new _ _, paint_new (by omega)⟩
    have HX2 := Lib.hid (hxa.kept (Mv.new (S := []) hbA 3) (by simp))
    have HZ2 := Lib.hid (hza.kept (Mv.new (S := []) hbA 3) (by simp))
    have HS2 := Lib.hid (Λ.kept hsa (Mv.new (S := []) hbA 3) (by simp))
    have HM2 := Lib.hid (hma.trans (Mv.new hbA 3))
    have HWS := Lib.hid hws
    clear hbA hxa hza hsa hma hws
    generalize hg : w1.heap.size = g at *
    generalize paint c1 ws 3 = c2 at *
    obtain ⟨tl, htl⟩ : ∃ tl : List Value, tl = [] := ⟨_, rfl⟩
    have HT2 : Hid (cur.toList = L0.flatMap encW ++ tl) := Lib.hid (by rw [htl]; exact HML.out)
    have HN : Hid (N ≤ N ∧ N ≤ maxLen ∧ N * 3 = N * 3 + tl.length) := Lib.hid ⟨Nat.le_refl _, by unfold maxLen; omega, by rw [htl]; simp⟩
    clear htl
    go_upto_region 6 with fail
    rw [HWS.out]
    clear HWS
    generalize ws.alloc (.cells cur 49) = W2 at *
    have hcx2 := hp_cell HX2.out.hp k
    rw [HKX.out] at hcx2
    clear hxk cy hB1 hsz hlt hne hne2 hxf hmk
    go_wp2

    go_loopw [35] (LInv Λ.LS (elemT Λ.o) encW (mapT (elemT Λ.o) L0 s1) [1, 2, 4, 3] col w x csx z (.iface Λ.lt Λ.lv) g 49 3 N tl) (fun t _ => (N - (intOf t).toNat))
    case atStart => exact ⟨0, c2, s1, [], L0, rfl, rfl, by rw [hL0]; omega, by simp only [List.nil_append]; exact (bind_ret_self _ _).symm, HS2.out, HM2.out, HX2.out, HZ2.out, cur, HC2.out, HT2.out⟩
    case round =>
      obtain ⟨j, c, sj, done, rest, rfl, hd, hn, hR, hSj, hMj, hXj, hZj, curj, hCj, hTj⟩ := hrel
      cases rest with
      | nil =>
        have hjN : N = j := by simp only [List.length_nil] at hn; omega
        subst hjN
        go_wp2
        refine bodyPost_end (results_none rfl _ _ _) rfl ?_
        rw [List.append_nil] at hTj
        refine .done hMj (HV.out.trans (map_end hR)) hSj ⟨some ⟨g, 0, none⟩, N, ?_, ?_⟩
        · rw [hd]; rw [HCX.out]; exact hXj
        · have hl : (done.flatMap encW).length = N * 3 := by rw [encW_ok.length, hd]
          rw [hd]
          exact Row.mk' hCj.hp HN.out.1 HN.out.2.1 (by rw [← Array.length_toList, hTj, List.length_append, hl]; exact HN.out.2.2.symm) (by rw [hTj, ← hl, List.take_left]) hl hCj.col
      | cons y rest =>
        have hjN : j < N := by simp only [List.length_cons] at hn; omega
        have hfx : Λ.fit ((elemT Λ.o) y sj).2 := map_fit (mono_elem Λ) (mono_map Λ (mono_elem Λ)) hR HF.out
        rw [show (done ++ y :: rest).flatMap encW ++ tl = done.flatMap encW ++ encW y ++ (rest.flatMap encW ++ tl) by simp [List.flatMap_append, List.flatMap_cons]] at hTj
        have hl : (done.flatMap encW).length = j * 3 := by rw [encW_ok.length, hd]
        have hgets := get3_at _ _ _ _ hTj
        rw [hl] at hgets
        have hcx := hp_cell hXj.hp k
        rw [HKX.out] at hcx
        have HC := Lib.hid (c_elem Λ z c _ sj 3 g (j * 3) curj 49 y hSj hZj hCj (by decide) (by decide) hgets.1 hgets.2.1 hgets.2.2 hfx)
        have HXj := Lib.hid (And.intro hXj hZj)
        have HTj := Lib.hid (And.intro hTj hl)
        have HD := Lib.hid hd
        have HNN := Lib.hid hn
        have HRR := Lib.hid hR
        have HMj := Lib.hid hMj
        clear hXj hZj hTj hl hd hn hR hMj hfx hSj hgets hCj
        go_wp2_with fail
        refine HC.out.mono ?_
        rintro e w5 ⟨c5, hm5, ⟨y', hr5, rfl, hS5, hB5⟩ | ⟨er, hr5, h0, rfl, hE⟩⟩
        rotate_left
        · exact ⟨rfl, .fail (HMj.out.trans (hm5.sub (by simp))) (HV.out.trans (map_err HRR.out hr5)) h0 ⟨_, HXj.out.1.kept hm5 (by decide), by first | rfl | (rw [← HCX.out]; simp)⟩⟩
        have hX5 := HXj.out.1.kept hm5 (by decide)
        have hZ5 := HXj.out.2.kept hm5 (by decide)
        go_wp2
        go_roundw
        case rel =>
          refine ⟨j + 1, c5, _, done ++ [y'], rest, by go_num, by rw [List.length_append, HD.out]; rfl, by have := HNN.out; simp only [List.length_cons] at this; omega, map_step HRR.out hr5, hS5, HMj.out.trans (hm5.sub (by simp)), hX5, hZ5, _, hB5, ?_⟩
          have hs := set3_at _ _ _ y' _ HTj.out.1
          rw [HTj.out.2] at hs
          refine hs.trans ?_
          simp [List.flatMap_append, List.flatMap_cons]
        case measure => simp [intOf]; omega

  · have hpos : 0 < N0 := by omega
    obtain ⟨g, cap, cur, hv, hp, hnc, hcm, hcs, htk, hcol⟩ := HR1.out.pos hpos
    injection hv with hv1 hv2 hv3
    subst hv1 hv3
    obtain ⟨N, hN⟩ : ∃ N, N = N0 := ⟨_, rfl⟩
    subst hN
    have HV : Hid (listT Λ.o (elemT Λ.o) Wt.zero L s = mapT (elemT Λ.o) L s1) := Lib.hid (by have := HV1.out; rw [if_neg h0] at this; exact this)
    have HF : Hid (Λ.fit (mapT (elemT Λ.o) L s1).2) := Lib.hid (by have := HF1.out; rw [if_neg h0] at this; exact this)
    clear HV1 HF1
    have hfl : (L.flatMap encW).length = N * 3 := by rw [encW_ok.length, HN0.out]
    have HT2 : Hid (cur.toList = L.flatMap encW ++ cur.toList.drop (N * 3)) := Lib.hid (by rw [← htk, List.take_append_drop])
    have HN : Hid (N ≤ wc ∧ wc ≤ maxLen ∧ wc * 3 = N * 3 + (cur.toList.drop (N * 3)).length) := Lib.hid ⟨hnc, hcm, by rw [List.length_drop, Array.length_toList, hcs]; have := Nat.mul_le_mul_right 3 hnc; omega⟩
    have HX2 := HX1
    have HZ2 := HZ1
    have HS2 := HS1
    have HM2 := HHM
    have HC2 : Hid (Blk c1 3 w1 g cur 49) := Lib.hid ⟨hp, hcol⟩
    have HKX := HK
    have HCX : Hid (cs.setIfInBounds k (.slice (some ⟨g, 0, none⟩) N wc) = cs) := Lib.hid (set_same HK.out)
    have hcx2 := hp_cell HX1.out.hp k
    rw [HK.out] at hcx2
    have HL0 := HN0
    generalize cur.toList.drop (N * 3) = tl at *
    have hb0 : ((N : Int) == 0) = false := by simp; omega
    clear HR1 hfl hp hnc hcm hcs htk hcol HN0 hv2 h0 hB1
    go_wp2

    go_loopw [35] (LInv Λ.LS (elemT Λ.o) encW (mapT (elemT Λ.o) L s1) [1, 2, 4, 3] col w x cs z (.iface Λ.lt Λ.lv) g 49 3 N tl) (fun t _ => (N - (intOf t).toNat))
    case atStart => exact ⟨0, c1, s1, [], L, rfl, rfl, by rw [HL0.out]; omega, by simp only [List.nil_append]; exact (bind_ret_self _ _).symm, HS2.out, HM2.out, HX2.out, HZ2.out, cur, HC2.out, HT2.out⟩
    case round =>
      obtain ⟨j, c, sj, done, rest, rfl, hd, hn, hR, hSj, hMj, hXj, hZj, curj, hCj, hTj⟩ := hrel
      cases rest with
      | nil =>
        have hjN : N = j := by simp only [List.length_nil] at hn; omega
        subst hjN
        go_wp2
        refine bodyPost_end (results_none rfl _ _ _) rfl ?_
        rw [List.append_nil] at hTj
        refine .done hMj (HV.out.trans (map_end hR)) hSj ⟨some ⟨g, 0, none⟩, wc, ?_, ?_⟩
        · rw [hd]; rw [HCX.out]; exact hXj
        · have hl : (done.flatMap encW).length = N * 3 := by rw [encW_ok.length, hd]
          rw [hd]
          exact Row.mk' hCj.hp HN.out.1 HN.out.2.1 (by rw [← Array.length_toList, hTj, List.length_append, hl]; exact HN.out.2.2.symm) (by rw [hTj, ← hl, List.take_left]) hl hCj.col
      | cons y rest =>
        have hjN : j < N := by simp only [List.length_cons] at hn; omega
        have hfx : Λ.fit ((elemT Λ.o) y sj).2 := map_fit (mono_elem Λ) (mono_map Λ (mono_elem Λ)) hR HF.out
        rw [show (done ++ y :: rest).flatMap encW ++ tl = done.flatMap encW ++ encW y ++ (rest.flatMap encW ++ tl) by simp [List.flatMap_append, List.flatMap_cons]] at hTj
        have hl : (done.flatMap encW).length = j * 3 := by rw [encW_ok.length, hd]
        have hgets := get3_at _ _ _ _ hTj
        rw [hl] at hgets
        have hcx := hp_cell hXj.hp k
        rw [HKX.out] at hcx
        have HC := Lib.hid (c_elem Λ z c _ sj 3 g (j * 3) curj 49 y hSj hZj hCj (by decide) (by decide) hgets.1 hgets.2.1 hgets.2.2 hfx)
        have HXj := Lib.hid (And.intro hXj hZj)
        have HTj := Lib.hid (And.intro hTj hl)
        have HD := Lib.hid hd
        have HNN := Lib.hid hn
        have HRR := Lib.hid hR
        have HMj := Lib.hid hMj
        clear hXj hZj hTj hl hd hn hR hMj hfx hSj hgets hCj
        go_wp2_with fail
        refine HC.out.mono ?_
        rintro e w5 ⟨c5, hm5, ⟨y', hr5, rfl, hS5, hB5⟩ | ⟨er, hr5, h0, rfl, hE⟩⟩
        rotate_left
        · exact ⟨rfl, .fail (HMj.out.trans (hm5.sub (by simp))) (HV.out.trans (map_err HRR.out hr5)) h0 ⟨_, HXj.out.1.kept hm5 (by decide), by first | rfl | (rw [← HCX.out]; simp)⟩⟩
        have hX5 := HXj.out.1.kept hm5 (by decide)
        have hZ5 := HXj.out.2.kept hm5 (by decide)
        go_wp2
        go_roundw
        case rel =>
          refine ⟨j + 1, c5, _, done ++ [y'], rest, by go_num, by rw [List.length_append, HD.out]; rfl, by have := HNN.out; simp only [List.length_cons] at this; omega, map_step HRR.out hr5, hS5, HMj.out.trans (hm5.sub (by simp)), hX5, hZ5, _, hB5, ?_⟩
          have hs := set3_at _ _ _ y' _ HTj.out.1
          rw [HTj.out.2] at hs
          refine hs.trans ?_
          simp [List.flatMap_append, List.flatMap_cons]
        case measure => simp [intOf]; omega



theorem c_listK (z : Nat) (col : Nat → Nat) (w : World) (s : σ) (x k : Nat) (cs : Array Value) (L : List ByteArray) (wp : Option Addr) (wc : Nat) (hS : Λ.LS col w s) (hZ : Blk col 6 w z #[.iface Λ.lt Λ.lv] 97) (hX : Blk col 2 w x cs 30) (hk : cs[k]? = some (.slice wp L.length wc)) (hrow : Row col 5 w 9 1 (.slice wp L.length wc) L.length (L.flatMap encS)) (hL : L.length ≤ 9223372036854775807) (hf : Λ.fit (listT Λ.o (keyT Λ.o) emp L s).2) :
    Calls Try.prog 71 #[.iface Λ.lt Λ.lv, .pointer (some ⟨x, k, none⟩), .func (.func 72) #[] #[.pointer (some ⟨z, 0, none⟩)]] w (LPost Λ.LS [1, 2, 4, 5] col w (listT Λ.o (keyT Λ.o) emp L s) (fun L' c w' => ∃ wp wc, Blk c 2 w' x (cs.setIfInBounds k (.slice wp L'.length wc)) 30 ∧ Row c 5 w' 9 1 (.slice wp L'.length wc) L'.length (L'.flatMap encS)) (Kep x 2 30 cs.size)) := by
  have HUN : (listT Λ.o (keyT Λ.o) emp L s = ((Λ.o.num (L.length : Int)).bind fun n => if n < 1 ∨ 8 < n then .fail 11 else mapT (keyT Λ.o) (if L.length = 0 then List.replicate n.toNat emp else L)) s) := rfl
  rw [HUN] at hf
  generalize hN0 : L.length = N0 at *
  have HF := Lib.hid hf; clear hf
  have HN0 := Lib.hid hN0; clear hN0
  have HUN' := Lib.hid HUN; clear HUN
  have hck := hp_cell hX.hp k
  rw [hk] at hck
  have hm := Λ.mnum
  have he := Λ.enum
  have hb : Below w.heap.size w (w.alloc (.cells #[.int .i64 (N0 : Int)] 2)) := below_alloc (Below.refl _ _) _
  have hn : Blk (paint col w 4) 4 (w.alloc (.cells #[.int .i64 (N0 : Int)] 2)) w.heap.size #[.int .i64 (N0 : Int)] 2 := ⟨hp_alloc_new _ _, paint_new (Nat.le_refl _)⟩
  have hm0 : Mv [1, 2, 4, 5] col w (paint col w 4) _ := Mv.new hb 4
  have HS := Lib.hid (Λ.kept hS (Mv.new (S := []) hb 4) (by simp))
  have HX0 := Lib.hid (hX.kept (Mv.new (S := []) hb 4) (by simp))
  have HR0 := Lib.hid (hrow.kept (Mv.new (S := []) hb 4) (by simp))
  have HZ0 := Lib.hid (hZ.kept (Mv.new (S := []) hb 4) (by simp))
  have HK := Lib.hid hk
  have HC : Hid (∀ W, Λ.LS (paint col w 4) W s → Blk (paint col w 4) 4 W w.heap.size #[.int .i64 (N0 : Int)] 2 → Calls Try.prog Λ.fnum #[Λ.recv, .pointer (some ⟨w.heap.size, 0, none⟩)] W (LPost Λ.LS [1, 4] (paint col w 4) W (Λ.o.num N0 s) (fun n' col' w' => Blk col' 4 w' w.heap.size (#[Value.int .i64 (N0 : Int)].setIfInBounds 0 (.int .i64 n')) 2) (Kep w.heap.size 4 2 1))) := Lib.hid fun W h1 h2 => Λ.cnum _ W s 4 _ 0 _ 2 N0 h1 h2 (by decide) rfl (by omega) (by omega) (fit_left (fun n => by split; exact mono_fail _; exact mono_map Λ (mono_key Λ) _) HF.out)
  clear hk hS hb hX hrow hZ
  generalize hz : w.heap.size = y at *
  generalize paint col w 4 = c0 at *
  go_enter Try.func71, Try.ntmps71
  go_wp2_with fail
  refine (HC.out _ HS.out hn).mono ?_
  rintro e w1 ⟨c1, hm1, ⟨n', hr, rfl, hS1, hB1⟩ | ⟨er, hr, h0, rfl, hE⟩⟩
  rotate_left
  · exact ⟨rfl, .fail (hm0.trans (hm1.sub (by simp))) (HUN'.out.trans (bind_error hr)) h0 ⟨_, HX0.out.kept hm1 (by decide), rfl⟩⟩
  have hM1 := hm0.trans (hm1.sub (by simp))
  have HV : Hid (listT Λ.o (keyT Λ.o) emp L s = (if n' < 1 ∨ 8 < n' then .fail 11 else mapT (keyT Λ.o) (if N0 = 0 then List.replicate n'.toNat emp else L)) (Λ.o.num N0 s).2) := Lib.hid (HUN'.out.trans (bind_ok hr))
  have HX1 := Lib.hid (HX0.out.kept hm1 (by decide))
  have HR1 := Lib.hid (HR0.out.kept hm1 (by decide))
  have HZ1 := Lib.hid (HZ0.out.kept hm1 (by decide))
  have HS1 := Lib.hid hS1
  have cy := hp_cell hB1.hp 0
  have HHM := Lib.hid hM1
  clear hm1 hm0 hr hn hM1 hS1
  by_cases hlo : n' < 1
  · go_wp2
    exact ⟨rfl, .fail HHM.out (HV.out.trans (by rw [if_pos (.inl hlo)]; rfl)) (by decide) ⟨_, HX1.out, rfl⟩⟩
  by_cases hhi : 8 < n'
  · go_wp2
    exact ⟨rfl, .fail HHM.out (HV.out.trans (by rw [if_pos (.inr hhi)]; rfl)) (by decide) ⟨_, HX1.out, rfl⟩⟩
  have HV1 : Hid (listT Λ.o (keyT Λ.o) emp L s = mapT (keyT Λ.o) (if N0 = 0 then List.replicate n'.toNat emp else L) (Λ.o.num N0 s).2) := Lib.hid (HV.out.trans (by rw [if_neg (by omega)]))
  have HF1 : Hid (Λ.fit (mapT (keyT Λ.o) (if N0 = 0 then List.replicate n'.toNat emp else L) (Λ.o.num N0 s).2).2) := Lib.hid (by rw [← HV1.out, HUN'.out]; exact HF.out)
  clear HV HF HUN' HC HS HX0 HR0 HZ0
  generalize (Λ.o.num N0 s).2 = s1 at *
  by_cases h0 : N0 = 0
  · obtain ⟨N, hN⟩ : ∃ N : Nat, n' = N := ⟨n'.toNat, by omega⟩
    subst hN
    have hN8 : N ≤ 8 := by omega
    have hN1 : 0 < N := by omega
    have hmk := fun W => make_S W N hN8
    have hL0 : (List.replicate N (emp)).length = N := List.length_replicate
    have hml := madeS_list N hN8
    have HV : Hid (listT Λ.o (keyT Λ.o) emp L s = mapT (keyT Λ.o) (List.replicate N emp) s1) := Lib.hid (by have := HV1.out; rw [if_pos h0] at this; exact this)
    have HF : Hid (Λ.fit (mapT (keyT Λ.o) (List.replicate N emp) s1).2) := Lib.hid (by have := HF1.out; rw [if_pos h0] at this; exact this)
    clear HV1 HF1
    subst h0
    generalize List.replicate N (emp) = L0 at *
    have HML := Lib.hid hml; clear hml
    generalize madeS N = cur at *
    have hxf := hp_free HX1.out.hp k
    have hxk := hp_cell HX1.out.hp k
    rw [HK.out] at hxk
    have hlt : x < w1.heap.size := hp_lt HX1.out.hp
    have hne : ¬ x = w1.heap.size := by omega
    have hne2 : ¬ w1.heap.size = x := by omega
    have hst : Mv [2] c1 w1 c1 (w1.setCell ⟨x, k, none⟩ (.slice (some ⟨w1.heap.size, 0, none⟩) N N)) := mv_set Mv.refl (p := ⟨x, k, none⟩) (by rw [HX1.out.col]; simp) _
    have hsz : (w1.setCell ⟨x, k, none⟩ (.slice (some ⟨w1.heap.size, 0, none⟩) N N)).heap.size = w1.heap.size := by simp [World.setCell]
    have hxa : Blk c1 2 (w1.setCell ⟨x, k, none⟩ (.slice (some ⟨w1.heap.size, 0, none⟩) N N)) x (cs.setIfInBounds k (.slice (some ⟨w1.heap.size, 0, none⟩) N N)) 30 := ⟨hp_set HX1.out.hp _, HX1.out.col⟩
    have hza := HZ1.out.kept hst (by decide)
    have hsa := Λ.kept HS1.out hst (by decide)
    have hma := HHM.out.trans (hst.sub (by simp))
    have HKX : Hid ((cs.setIfInBounds k (.slice (some ⟨w1.heap.size, 0, none⟩) N N))[k]? = some (.slice (some ⟨w1.heap.size, 0, none⟩) N N)) := Lib.hid (get_set HK.out)
    generalize hcsx : cs.setIfInBounds k (.slice (some ⟨w1.heap.size, 0, none⟩) N N) = csx at hxa HKX
    have HCX : Hid (cs.setIfInBounds k (.slice (some ⟨w1.heap.size, 0, none⟩) N N) = csx) := Lib.hid hcsx
    clear hcsx hst
    generalize hws : w1.setCell ⟨x, k, none⟩ (.slice (some ⟨w1.heap.size, 0, none⟩) N N) = ws at *
    have hbA : Below ws.heap.size ws (ws.alloc (.cells cur 9)) := below_alloc (Below.refl _ _) _
    have HC2 : Hid (Blk (paint c1 ws 5) 5 (ws.alloc (.cells cur 9)) w1.heap.size cur 9) := Lib.hid ⟨by rw [← hsz]; exact hp_alloc_new _ _, paint_new (by omega)⟩
    have HX2 := Lib.hid (hxa.kept (Mv.new (S := []) hbA 5) (by simp))
    have HZ2 := Lib.hid (hza.kept (Mv.new (S := []) hbA 5) (by simp))
    have HS2 := Lib.hid (Λ.kept hsa (Mv.new (S := []) hbA 5) (by simp))
    have HM2 := Lib.hid (hma.trans (Mv.new hbA 5))
    have HWS := Lib.hid hws
    clear hbA hxa hza hsa hma hws
    generalize hg : w1.heap.size = g at *
    generalize paint c1 ws 5 = c2 at *
    obtain ⟨tl, htl⟩ : ∃ tl : List Value, tl = [] := ⟨_, rfl⟩
    have HT2 : Hid (cur.toList = L0.flatMap encS ++ tl) := Lib.hid (by rw [htl]; exact HML.out)
    have HN : Hid (N ≤ N ∧ N ≤ maxLen ∧ N * 1 = N * 1 + tl.length) := Lib.hid ⟨Nat.le_refl _, by unfold maxLen; omega, by rw [htl]; simp⟩
    clear htl
    go_upto_region 6 with fail
    rw [HWS.out]
    clear HWS
    generalize ws.alloc (.cells cur 9) = W2 at *
    have hcx2 := hp_cell HX2.out.hp k
    rw [HKX.out] at hcx2
    clear hxk cy hB1 hsz hlt hne hne2 hxf hmk
    go_wp2

    go_loopw [35] (LInv Λ.LS (keyT Λ.o) encS (mapT (keyT Λ.o) L0 s1) [1, 2, 4, 5] col w x csx z (.iface Λ.lt Λ.lv) g 9 5 N tl) (fun t _ => (N - (intOf t).toNat))
    case atStart => exact ⟨0, c2, s1, [], L0, rfl, rfl, by rw [hL0]; omega, by simp only [List.nil_append]; exact (bind_ret_self _ _).symm, HS2.out, HM2.out, HX2.out, HZ2.out, cur, HC2.out, HT2.out⟩
    case round =>
      obtain ⟨j, c, sj, done, rest, rfl, hd, hn, hR, hSj, hMj, hXj, hZj, curj, hCj, hTj⟩ := hrel
      cases rest with
      | nil =>
        have hjN : N = j := by simp only [List.length_nil] at hn; omega
        subst hjN
        go_wp2
        refine bodyPost_end (results_none rfl _ _ _) rfl ?_
        rw [List.append_nil] at hTj
        refine .done hMj (HV.out.trans (map_end hR)) hSj ⟨some ⟨g, 0, none⟩, N, ?_, ?_⟩
        · rw [hd]; rw [HCX.out]; exact hXj
        · have hl : (done.flatMap encS).length = N * 1 := by rw [encS_ok.length, hd]
          rw [hd]
          exact Row.mk' hCj.hp HN.out.1 HN.out.2.1 (by rw [← Array.length_toList, hTj, List.length_append, hl]; exact HN.out.2.2.symm) (by rw [hTj, ← hl, List.take_left]) hl hCj.col
      | cons y rest =>
        have hjN : j < N := by simp only [List.length_cons] at hn; omega
        have hfx : Λ.fit ((keyT Λ.o) y sj).2 := map_fit (mono_key Λ) (mono_map Λ (mono_key Λ)) hR HF.out
        rw [show (done ++ y :: rest).flatMap encS ++ tl = done.flatMap encS ++ encS y ++ (rest.flatMap encS ++ tl) by simp [List.flatMap_append, List.flatMap_cons]] at hTj
        have hl : (done.flatMap encS).length = j := by rw [encS_ok.length, hd]; omega
        have hgets := get_at _ _ _ _ (show curj.toList = done.flatMap encS ++ (.string y) :: (rest.flatMap encS ++ tl) by rw [hTj]; simp [encS])
        rw [hl] at hgets
        have hcx := hp_cell hXj.hp k
        rw [HKX.out] at hcx
        have HC := Lib.hid (c_key Λ z c _ sj 5 g (j) curj 9 y hSj hZj hCj (by decide) (by decide) hgets hfx)
        have HXj := Lib.hid (And.intro hXj hZj)
        have HTj := Lib.hid (And.intro hTj hl)
        have HD := Lib.hid hd
        have HNN := Lib.hid hn
        have HRR := Lib.hid hR
        have HMj := Lib.hid hMj
        clear hXj hZj hTj hl hd hn hR hMj hfx hSj hgets hCj
        go_wp2_with fail
        refine HC.out.mono ?_
        rintro e w5 ⟨c5, hm5, ⟨y', hr5, rfl, hS5, hB5⟩ | ⟨er, hr5, h0, rfl, hE⟩⟩
        rotate_left
        · exact ⟨rfl, .fail (HMj.out.trans (hm5.sub (by simp))) (HV.out.trans (map_err HRR.out hr5)) h0 ⟨_, HXj.out.1.kept hm5 (by decide), by first | rfl | (rw [← HCX.out]; simp)⟩⟩
        have hX5 := HXj.out.1.kept hm5 (by decide)
        have hZ5 := HXj.out.2.kept hm5 (by decide)
        go_wp2
        go_roundw
        case rel =>
          refine ⟨j + 1, c5, _, done ++ [y'], rest, by go_num, by rw [List.length_append, HD.out]; rfl, by have := HNN.out; simp only [List.length_cons] at this; omega, map_step HRR.out hr5, hS5, HMj.out.trans (hm5.sub (by simp)), hX5, hZ5, _, hB5, ?_⟩
          have hs := set_at _ _ _ (.string y') _ (show curj.toList = done.flatMap encS ++ (.string y) :: (rest.flatMap encS ++ tl) by rw [HTj.out.1]; simp [encS])
          rw [HTj.out.2] at hs
          refine hs.trans ?_
          simp [List.flatMap_append, List.flatMap_cons, encS]
        case measure => simp [intOf]; omega

  · have hpos : 0 < N0 := by omega
    obtain ⟨g, cap, cur, hv, hp, hnc, hcm, hcs, htk, hcol⟩ := HR1.out.pos hpos
    injection hv with hv1 hv2 hv3
    subst hv1 hv3
    obtain ⟨N, hN⟩ : ∃ N, N = N0 := ⟨_, rfl⟩
    subst hN
    have HV : Hid (listT Λ.o (keyT Λ.o) emp L s = mapT (keyT Λ.o) L s1) := Lib.hid (by have := HV1.out; rw [if_neg h0] at this; exact this)
    have HF : Hid (Λ.fit (mapT (keyT Λ.o) L s1).2) := Lib.hid (by have := HF1.out; rw [if_neg h0] at this; exact this)
    clear HV1 HF1
    have hfl : (L.flatMap encS).length = N * 1 := by rw [encS_ok.length, HN0.out]
    have HT2 : Hid (cur.toList = L.flatMap encS ++ cur.toList.drop (N * 1)) := Lib.hid (by rw [← htk, List.take_append_drop])
    have HN : Hid (N ≤ wc ∧ wc ≤ maxLen ∧ wc * 1 = N * 1 + (cur.toList.drop (N * 1)).length) := Lib.hid ⟨hnc, hcm, by rw [List.length_drop, Array.length_toList, hcs]; have := Nat.mul_le_mul_right 1 hnc; omega⟩
    have HX2 := HX1
    have HZ2 := HZ1
    have HS2 := HS1
    have HM2 := HHM
    have HC2 : Hid (Blk c1 5 w1 g cur 9) := Lib.hid ⟨hp, hcol⟩
    have HKX := HK
    have HCX : Hid (cs.setIfInBounds k (.slice (some ⟨g, 0, none⟩) N wc) = cs) := Lib.hid (set_same HK.out)
    have hcx2 := hp_cell HX1.out.hp k
    rw [HK.out] at hcx2
    have HL0 := HN0
    generalize cur.toList.drop (N * 1) = tl at *
    have hb0 : ((N : Int) == 0) = false := by simp; omega
    clear HR1 hfl hp hnc hcm hcs htk hcol HN0 hv2 h0 hB1
    go_wp2

    go_loopw [35] (LInv Λ.LS (keyT Λ.o) encS (mapT (keyT Λ.o) L s1) [1, 2, 4, 5] col w x cs z (.iface Λ.lt Λ.lv) g 9 5 N tl) (fun t _ => (N - (intOf t).toNat))
    case atStart => exact ⟨0, c1, s1, [], L, rfl, rfl, by rw [HL0.out]; omega, by simp only [List.nil_append]; exact (bind_ret_self _ _).symm, HS2.out, HM2.out, HX2.out, HZ2.out, cur, HC2.out, HT2.out⟩
    case round =>
      obtain ⟨j, c, sj, done, rest, rfl, hd, hn, hR, hSj, hMj, hXj, hZj, curj, hCj, hTj⟩ := hrel
      cases rest with
      | nil =>
        have hjN : N = j := by simp only [List.length_nil] at hn; omega
        subst hjN
        go_wp2
        refine bodyPost_end (results_none rfl _ _ _) rfl ?_
        rw [List.append_nil] at hTj
        refine .done hMj (HV.out.trans (map_end hR)) hSj ⟨some ⟨g, 0, none⟩, wc, ?_, ?_⟩
        · rw [hd]; rw [HCX.out]; exact hXj
        · have hl : (done.flatMap encS).length = N * 1 := by rw [encS_ok.length, hd]
          rw [hd]
          exact Row.mk' hCj.hp HN.out.1 HN.out.2.1 (by rw [← Array.length_toList, hTj, List.length_append, hl]; exact HN.out.2.2.symm) (by rw [hTj, ← hl, List.take_left]) hl hCj.col
      | cons y rest =>
        have hjN : j < N := by simp only [List.length_cons] at hn; omega
        have hfx : Λ.fit ((keyT Λ.o) y sj).2 := map_fit (mono_key Λ) (mono_map Λ (mono_key Λ)) hR HF.out
        rw [show (done ++ y :: rest).flatMap encS ++ tl = done.flatMap encS ++ encS y ++ (rest.flatMap encS ++ tl) by simp [List.flatMap_append, List.flatMap_cons]] at hTj
        have hl : (done.flatMap encS).length = j := by rw [encS_ok.length, hd]; omega
        have hgets := get_at _ _ _ _ (show curj.toList = done.flatMap encS ++ (.string y) :: (rest.flatMap encS ++ tl) by rw [hTj]; simp [encS])
        rw [hl] at hgets
        have hcx := hp_cell hXj.hp k
        rw [HKX.out] at hcx
        have HC := Lib.hid (c_key Λ z c _ sj 5 g (j) curj 9 y hSj hZj hCj (by decide) (by decide) hgets hfx)
        have HXj := Lib.hid (And.intro hXj hZj)
        have HTj := Lib.hid (And.intro hTj hl)
        have HD := Lib.hid hd
        have HNN := Lib.hid hn
        have HRR := Lib.hid hR
        have HMj := Lib.hid hMj
        clear hXj hZj hTj hl hd hn hR hMj hfx hSj hgets hCj
        go_wp2_with fail
        refine HC.out.mono ?_
        rintro e w5 ⟨c5, hm5, ⟨y', hr5, rfl, hS5, hB5⟩ | ⟨er, hr5, h0, rfl, hE⟩⟩
        rotate_left
        · exact ⟨rfl, .fail (HMj.out.trans (hm5.sub (by simp))) (HV.out.trans (map_err HRR.out hr5)) h0 ⟨_, HXj.out.1.kept hm5 (by decide), by first | rfl | (rw [← HCX.out]; simp)⟩⟩
        have hX5 := HXj.out.1.kept hm5 (by decide)
        have hZ5 := HXj.out.2.kept hm5 (by decide)
        go_wp2
        go_roundw
        case rel =>
          refine ⟨j + 1, c5, _, done ++ [y'], rest, by go_num, by rw [List.length_append, HD.out]; rfl, by have := HNN.out; simp only [List.length_cons] at this; omega, map_step HRR.out hr5, hS5, HMj.out.trans (hm5.sub (by simp)), hX5, hZ5, _, hB5, ?_⟩
          have hs := set_at _ _ _ (.string y') _ (show curj.toList = done.flatMap encS ++ (.string y) :: (rest.flatMap encS ++ tl) by rw [HTj.out.1]; simp [encS])
          rw [HTj.out.2] at hs
          refine hs.trans ?_
          simp [List.flatMap_append, List.flatMap_cons, encS]
        case measure => simp [intOf]; omega


end

end Go.Proofs.Ytiklpifaaogcpaa
