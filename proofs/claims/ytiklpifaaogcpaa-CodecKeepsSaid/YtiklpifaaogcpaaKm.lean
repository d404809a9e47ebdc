/- Texts laid together: Kw Km. -/
import Derived.Test.YtiklpifaaogcpaaKl
import Derived.WalkKit
import Derived.WalkLawsBesides
import Derived.WalkSpells
import Derived.Below
import Derived.Deep.RegionHeld3
import Derived.Deep.QuietTactic
import Derived.BigQuiet
import Derived.Deep.DeepCutAuto
import Derived.Deep.DeepMust
import Derived.KernelRfl
import Derived.Lib.Hide
import Derived.Outline
import Derived.RegionTactic
import Derived.StillTailTactics
import Derived.Laws.IdiomStrings
import Derived.Handy
namespace Go.Proofs.Ytiklpifaaogcpaa
open Go.RowKit Go.Cl Go.Wr Go.Kc
set_option maxRecDepth 100000
set_option linter.unusedVariables false
set_option linter.unusedSimpArgs false


theorem get_set {cs : Array Value} {k : Nat} {u v : Value} (h : cs[k]? = some u) : (cs.setIfInBounds k v)[k]? = some v := by
  obtain ⟨hk, _⟩ := Array.getElem?_eq_some_iff.1 h
  rw [Array.getElem?_setIfInBounds, if_pos rfl, if_pos hk]
theorem get_set_ne {cs : Array Value} {k j : Nat} {v : Value} (h : k ≠ j) : (cs.setIfInBounds k v)[j]? = cs[j]? := by
  rw [Array.getElem?_setIfInBounds, if_neg h]
section
variable {σ α β : Type} {LS : (Nat → Nat) → World → σ → Prop} {S : List Nat} {col col' : Nat → Nat} {w w' : World}
theorem LPost.done {r : Except Nat α × σ} {J : α → (Nat → Nat) → World → Prop} {E : (Nat → Nat) → World → Prop} {a : α} {s' : σ} (hm : Mv S col w col' w') (hr : r = (.ok a, s')) (hS : LS col' w' s') (hJ : J a col' w') : LPost LS S col w r J E (.returned (.tuple #[])) w' := by
  subst hr; exact ⟨col', hm, .inl ⟨a, rfl, rfl, hS, hJ⟩⟩
theorem LPost.fail {r : Except Nat α × σ} {J : α → (Nat → Nat) → World → Prop} {E : (Nat → Nat) → World → Prop} {er : Nat} {s' : σ} (hm : Mv S col w col' w') (hr : r = (.error er, s')) (h0 : er ≠ 0) (hE : E col' w') : LPost LS S col w r J E (.panicked [{ v := .iface 79 (.agg #[.int .i64 (er : Int)]), recovered := false }]) w' := by
  subst hr; exact ⟨col', hm, .inr ⟨er, rfl, h0, rfl, hE⟩⟩
theorem pair_ok {r : Except Nat α × σ} {a : α} (h : r.1 = .ok a) : r = (.ok a, r.2) := by rw [← h]
theorem pair_er {r : Except Nat α × σ} {e : Nat} (h : r.1 = .error e) : r = (.error e, r.2) := by rw [← h]
end
section
variable {σ : Type} (Λ : Lane σ)
theorem mono_value (h : Bool) (d : ByteArray) : Mono Λ.fit (valueT Λ.o h d) := by
  unfold valueT
  refine mono_bind (Λ.fit_bool h) fun h' => ?_
  split
  · exact mono_bind (Λ.fit_text d 256) fun _ => mono_ret _
  · exact mono_ret _
theorem mono_pin (lo hi : Int) : Mono Λ.fit (pinT Λ.o lo hi) := mono_bind (Λ.fit_num lo) fun _ => mono_bind (Λ.fit_num hi) fun _ => mono_ret _
theorem mono_asked (m : Mg) : Mono Λ.fit (askedT Λ.o m) := mono_bind (Λ.fit_num m.tx) fun _ => mono_bind (Λ.fit_num m.seq) fun _ => mono_ret _
theorem mono_elem (x : Wt) : Mono Λ.fit (elemT Λ.o x) := mono_bind (Λ.fit_text x.k 32) fun _ => mono_bind (mono_value Λ x.h x.d) fun _ => mono_ret _
theorem mono_key (x : ByteArray) : Mono Λ.fit (keyT Λ.o x) := Λ.fit_text x 32
theorem mono_map {α : Type} {one : α → M σ α} (h : ∀ x, Mono Λ.fit (one x)) : ∀ l, Mono Λ.fit (mapT one l)
  | [] => mono_ret _
  | x :: l => mono_bind (h x) fun _ => mono_bind (mono_map h l) fun _ => mono_ret _
theorem mono_list {α : Type} {one : α → M σ α} (h : ∀ x, Mono Λ.fit (one x)) (z : α) (L : List α) : Mono Λ.fit (listT Λ.o one z L) := by
  refine mono_bind (Λ.fit_num _) fun n => ?_
  split
  · exact mono_fail _
  · exact mono_map Λ h _
theorem mono_full (m : Mg) : Mono Λ.fit (fullT Λ.o m) := mono_bind (mono_value Λ _ _) fun _ => mono_bind (mono_pin Λ _ _) fun _ => mono_ret _
theorem mono_keyed (m : Mg) : Mono Λ.fit (keyedT Λ.o m) := mono_bind (mono_asked Λ _) fun _ => mono_bind (Λ.fit_text _ _) fun _ => mono_bind (mono_pin Λ _ _) fun _ => mono_ret _
theorem mono_told (m : Mg) : Mono Λ.fit (toldT Λ.o m) := by
  refine mono_bind (Λ.fit_num _) fun n => ?_
  dsimp only
  repeat' split
  · exact mono_bind (Λ.fit_text _ _) fun _ => mono_bind (mono_full Λ _) fun _ => mono_bind (Λ.fit_num _) fun _ => mono_ret _
  · exact mono_bind (Λ.fit_num _) fun _ => mono_bind (mono_list Λ (mono_key Λ) _ _) fun _ => mono_ret _
  · exact mono_bind (Λ.fit_num _) fun _ => mono_ret _
  · exact mono_bind (Λ.fit_num _) fun _ => mono_bind (Λ.fit_num _) fun _ => mono_ret _
  · exact mono_bind (Λ.fit_num _) fun _ => mono_ret _
  · exact mono_ret _

theorem c_whole (col : Nat → Nat) (w : World) (s : σ) (i x k : Nat) (cs : Array Value) (T : TypeId) (n : Int) (hS : Λ.LS col w s) (hB : Blk col i w x cs T) (hi : i ≠ 1) (hi4 : i ≠ 4) (hk : cs[k]? = some (.int .i64 n)) (n1 : -9223372036854775808 ≤ n) (n2 : n ≤ 9223372036854775807) (hf : Λ.fit (Λ.o.num n s).2) :
    Calls Try.prog 19 #[.iface Λ.lt Λ.lv, .pointer (some ⟨x, k, none⟩)] w (LPost Λ.LS [1, 4, i] col w (Λ.o.num n s) (fun n' col' w' => Blk col' i w' x (cs.setIfInBounds k (.int .i64 n')) T) (Kep x i T cs.size)) := by
  have hck := hp_cell hB.hp k
  rw [hk] at hck
  have hm := Λ.mnum
  have he := Λ.enum
  have hb : Below w.heap.size w (w.alloc (.cells #[.int .i64 n] 2)) := below_alloc (Below.refl _ _) _
  have hn : Blk (paint col w 4) 4 (w.alloc (.cells #[.int .i64 n] 2)) w.heap.size #[.int .i64 n] 2 := ⟨hp_alloc_new _ _, paint_new (Nat.le_refl _)⟩
  have hm0 : Mv [1, 4, i] col w (paint col w 4) _ := Mv.new hb 4
  have HS := Lib.hid (Λ.kept hS (Mv.new (S := []) hb 4) (by simp))
  have hB0 := hB.kept (Mv.new (S := []) hb 4) (by simp)
  have HI := Lib.hid hi
  have HI4 := Lib.hid hi4
  have HK := Lib.hid hk
  have HF := Lib.hid hf
  have HN := Lib.hid (And.intro n1 n2)
  clear hi hi4 hk hf n1 n2 hS hb hB
  have HC : Hid (∀ W, Λ.LS (paint col w 4) W s → Blk (paint col w 4) 4 W w.heap.size #[.int .i64 n] 2 → Calls Try.prog Λ.fnum #[Λ.recv, .pointer (some ⟨w.heap.size, 0, none⟩)] W (LPost Λ.LS [1, 4] (paint col w 4) W (Λ.o.num n s) (fun n' col' w' => Blk col' 4 w' w.heap.size (#[Value.int .i64 n].setIfInBounds 0 (.int .i64 n')) 2) (Kep w.heap.size 4 2 1))) := Lib.hid fun W h1 h2 => Λ.cnum _ W s 4 _ 0 _ 2 n h1 h2 (by decide) rfl HN.out.1 HN.out.2 HF.out
  generalize hz : w.heap.size = z at *
  generalize paint col w 4 = c1 at *
  go_enter Try.func19, Try.ntmps19
  go_wp2_with fail
  rw [hz] at *
  refine (HC.out _ HS.out hn).mono ?_
  rintro e w1 ⟨c2, hm1, ⟨n', hr, rfl, hS1, hB1⟩ | ⟨er, hr, h0, rfl, hE⟩⟩
  · have hm2 := hm0.trans (hm1.sub (by simp))
    have hB2 := hB0.kept hm1 (by have h1 := HI.out; have h4 := HI4.out; simp; omega)
    have hk2 := hp_cell hB2.hp k
    rw [HK.out] at hk2
    have hf2 := hp_free hB2.hp k
    have cz := hp_cell hB1.hp 0
    go_wp2
    refine bodyPost_end (results_none rfl _ _ _) rfl ?_
    have h4 : z ≠ x := fun e => HI4.out (by rw [← hB2.col, ← e]; exact hB1.col)
    refine .done (mv_set hm2 (p := ⟨x, k, none⟩) (by rw [hB2.col]; simp) _) (pair_ok hr) (Λ.kept hS1 (S := [i]) (col' := c2) (mv_set Mv.refl (p := ⟨x, k, none⟩) (by rw [hB2.col]; simp) _) (by have := HI.out; simp; omega)) ⟨hp_set hB2.hp _, hB2.col⟩
  · exact ⟨rfl, .fail (hm0.trans (hm1.sub (by simp))) (pair_er hr) h0 ⟨_, hB0.kept hm1 (by have h1 := HI.out; have h4 := HI4.out; simp; omega), rfl⟩⟩

theorem c_wholeE (col : Nat → Nat) (w : World) (s : σ) (i x k : Nat) (cs : Array Value) (T : TypeId) (n : Int) (hS : Λ.LS col w s) (hB : Blk col i w x cs T) (hi : i ≠ 1) (hi4 : i ≠ 4) (hk : cs[k]? = some (.int .i64 n)) (n1 : -9223372036854775808 ≤ n) (n2 : n ≤ 9223372036854775807) (hf : Λ.fit (Λ.o.num n s).2) :
    Calls Try.prog 54 #[.iface Λ.lt Λ.lv, .pointer (some ⟨x, k, none⟩)] w (LPost Λ.LS [1, 4, i] col w (Λ.o.num n s) (fun n' col' w' => Blk col' i w' x (cs.setIfInBounds k (.int .i64 n')) T) (Kep x i T cs.size)) := by
  have hck := hp_cell hB.hp k
  rw [hk] at hck
  have hm := Λ.mnum
  have he := Λ.enum
  have hb : Below w.heap.size w (w.alloc (.cells #[.int .i64 n] 2)) := below_alloc (Below.refl _ _) _
  have hn : Blk (paint col w 4) 4 (w.alloc (.cells #[.int .i64 n] 2)) w.heap.size #[.int .i64 n] 2 := ⟨hp_alloc_new _ _, paint_new (Nat.le_refl _)⟩
  have hm0 : Mv [1, 4, i] col w (paint col w 4) _ := Mv.new hb 4
  have HS := Lib.hid (Λ.kept hS (Mv.new (S := []) hb 4) (by simp))
  have hB0 := hB.kept (Mv.new (S := []) hb 4) (by simp)
  have HI := Lib.hid hi
  have HI4 := Lib.hid hi4
  have HK := Lib.hid hk
  have HF := Lib.hid hf
  have HN := Lib.hid (And.intro n1 n2)
  clear hi hi4 hk hf n1 n2 hS hb hB
  have HC : Hid (∀ W, Λ.LS (paint col w 4) W s → Blk (paint col w 4) 4 W w.heap.size #[.int .i64 n] 2 → Calls Try.prog Λ.fnum #[Λ.recv, .pointer (some ⟨w.heap.size, 0, none⟩)] W (LPost Λ.LS [1, 4] (paint col w 4) W (Λ.o.num n s) (fun n' col' w' => Blk col' 4 w' w.heap.size (#[Value.int .i64 n].setIfInBounds 0 (.int .i64 n')) 2) (Kep w.heap.size 4 2 1))) := Lib.hid fun W h1 h2 => Λ.cnum _ W s 4 _ 0 _ 2 n h1 h2 (by decide) rfl HN.out.1 HN.out.2 HF.out
  generalize hz : w.heap.size = z at *
  generalize paint col w 4 = c1 at *
  go_enter Try.func54, Try.ntmps54
  go_wp2_with fail
  rw [hz] at *
  refine (HC.out _ HS.out hn).mono ?_
  rintro e w1 ⟨c2, hm1, ⟨n', hr, rfl, hS1, hB1⟩ | ⟨er, hr, h0, rfl, hE⟩⟩
  · have hm2 := hm0.trans (hm1.sub (by simp))
    have hB2 := hB0.kept hm1 (by have h1 := HI.out; have h4 := HI4.out; simp; omega)
    have hk2 := hp_cell hB2.hp k
    rw [HK.out] at hk2
    have hf2 := hp_free hB2.hp k
    have cz := hp_cell hB1.hp 0
    go_wp2
    refine bodyPost_end (results_none rfl _ _ _) rfl ?_
    have h4 : z ≠ x := fun e => HI4.out (by rw [← hB2.col, ← e]; exact hB1.col)
    refine .done (mv_set hm2 (p := ⟨x, k, none⟩) (by rw [hB2.col]; simp) _) (pair_ok hr) (Λ.kept hS1 (S := [i]) (col' := c2) (mv_set Mv.refl (p := ⟨x, k, none⟩) (by rw [hB2.col]; simp) _) (by have := HI.out; simp; omega)) ⟨hp_set hB2.hp _, hB2.col⟩
  · exact ⟨rfl, .fail (hm0.trans (hm1.sub (by simp))) (pair_er hr) h0 ⟨_, hB0.kept hm1 (by have h1 := HI.out; have h4 := HI4.out; simp; omega), rfl⟩⟩

theorem c_value (col : Nat → Nat) (w : World) (s : σ) (i x k : Nat) (cs : Array Value) (T : TypeId) (h : Bool) (d : ByteArray) (hS : Λ.LS col w s) (hB : Blk col i w x cs T) (hi : i ≠ 1) (hk : cs[k]? = some (.bool h)) (hk1 : cs[k + 1]? = some (.string d)) (hf : Λ.fit (valueT Λ.o h d s).2) :
    Calls Try.prog 53 #[.iface Λ.lt Λ.lv, .pointer (some ⟨x, k, none⟩)] w (LPost Λ.LS [1, i] col w (valueT Λ.o h d s) (fun v col' w' => Blk col' i w' x ((cs.setIfInBounds k (.bool v.1)).setIfInBounds (k + 1) (.string v.2)) T) (Kep x i T cs.size)) := by
  have hm := Λ.mbool
  have he := Λ.ebool
  have hn := Λ.nbool
  have hmt := Λ.mtext
  have het := Λ.etext
  have hnt := Λ.ntext
  have HS := Lib.hid hS
  have HB := Lib.hid hB
  have HI := Lib.hid hi
  have HK := Lib.hid hk
  have HK1 := Lib.hid hk1
  have HF := Lib.hid hf
  clear hi hk hk1 hf hS hB
  go_enter Try.func53, Try.ntmps53
  go_wp2
  refine Ph.region_at (by kernel_rfl) ?_
  refine Ph.at_quiet 7 (by kernel_rfl) ?_
  simp only [List.take_succ_cons, List.take_zero, List.drop_succ_cons, List.drop_zero]
  repeat ((first | (apply Ph.wpPh_g; (focus (intro wq hS0; have hbq := below_call (below_drew (Below.refl _ _)) hS0; go_simp; first | exact rfl | exact ⟨rfl, Below.refl _ _⟩)))); simp only [Act.put, List.setIfInBounds_toArray, List.set_cons_zero, List.set_cons_succ])
  refine Ph.wpPh_nil ?_; intro w2 hSx
  have hb2 := below_call (below_drew (Below.refl _ _)) hSx
  clear hSx
  refine Ph.at_op rfl (by kernel_rfl) ?_

  go_wp2_with fail
  refine (Λ.cbool col w2 s i x k cs T h (Λ.kept HS.out (Mv.of_below (S := []) hb2) (by simp)) (HB.out.kept (Mv.of_below (S := []) hb2) (by simp)) HI.out HK.out (fit_left (fun h' => by split; exact mono_bind (Λ.fit_text d 256) (fun _ => mono_ret _); exact mono_ret _) HF.out)).mono ?_
  rintro e w3 ⟨c3, hm3, ⟨h', hr, rfl, hS3, hB3⟩ | ⟨er, hr, h0, rfl, hE⟩⟩
  rotate_left
  · exact ⟨rfl, .fail ((Mv.of_below hb2).trans hm3) (bind_error hr) h0 hE⟩
  have hM3 := (Mv.of_below (S := [1, i]) (col := col) hb2).trans hm3
  have hv : valueT Λ.o h d s = (if h' then (Λ.o.text d 256).bind fun d' => .ret (h', d') else .ret (h', d)) (Λ.o.bool h s).2 := bind_ok hr
  have HF' := HF.out
  rw [hv] at HF'
  have HF2 := Lib.hid HF'; clear HF' HF
  have HV := Lib.hid hv; clear hv
  have HS3 := Lib.hid hS3; clear hS3
  have hc3 := hp_cell hB3.hp k
  rw [get_set HK.out] at hc3
  have hg1 := get_set_ne (cs := cs) (k := k) (j := k + 1) (v := .bool h') (by omega)
  rw [HK1.out] at hg1
  clear hm3
  go_wp2
  refine Ph.at_end (by simp) ?_
  cases h'
  · go_wp2
    refine bodyPost_end (results_none rfl _ _ _) rfl ?_
    refine .done hM3 HV.out HS3.out ?_
    show Blk _ _ _ _ ((cs.setIfInBounds k (.bool false)).setIfInBounds (k + 1) (.string d)) _
    rw [set_same hg1]
    exact hB3
  · go_wp2
    refine Ph.region_at (by kernel_rfl) ?_
    refine Ph.at_quiet 7 (by kernel_rfl) ?_
    simp only [List.take_succ_cons, List.take_zero, List.drop_succ_cons, List.drop_zero]
    repeat ((first | (apply Ph.wpPh_g; (focus (intro wq hS0; have hbq := below_call (below_drew (Below.refl _ _)) hS0; go_simp; first | exact rfl | exact ⟨rfl, Below.refl _ _⟩)))); simp only [Act.put, List.setIfInBounds_toArray, List.set_cons_zero, List.set_cons_succ])
    refine Ph.wpPh_nil ?_; intro w4 hSx
    have hb4 := below_call (below_drew (Below.refl _ _)) hSx
    clear hSx
    refine Ph.at_op rfl (by kernel_rfl) ?_

    go_wp2_with fail
    refine (Λ.ctext c3 w4 _ i x (k + 1) _ T d 256 (Λ.kept HS3.out (Mv.of_below (S := []) hb4) (by simp)) (hB3.kept (Mv.of_below (S := []) hb4) (by simp)) HI.out hg1 (fit_left (fun _ => mono_ret _) HF2.out)).mono ?_
    rintro e w5 ⟨c5, hm5, ⟨d', hr5, rfl, hS5, hB5⟩ | ⟨er, hr5, h0, rfl, hE⟩⟩
    rotate_left
    · exact ⟨rfl, .fail ((hM3.after_below hb4).trans hm5) (HV.out.trans (bind_error hr5)) h0 (by simpa [Kep] using hE)⟩
    go_wp2
    refine Ph.at_end (by simp) ?_
    go_wp2
    refine bodyPost_end (results_none rfl _ _ _) rfl ?_
    exact .done ((hM3.after_below hb4).trans hm5) (HV.out.trans (bind_ok hr5)) hS5 hB5
theorem c_pin (col : Nat → Nat) (w : World) (s : σ) (i x k : Nat) (cs : Array Value) (T : TypeId) (lo hi' : Int) (hS : Λ.LS col w s) (hB : Blk col i w x cs T) (hi : i ≠ 1) (hk : cs[k]? = some (.int .i64 lo)) (hk1 : cs[k + 1]? = some (.int .i64 hi'))
    (l1 : -9223372036854775808 ≤ lo) (l2 : lo ≤ 9223372036854775807) (m1 : -9223372036854775808 ≤ hi') (m2 : hi' ≤ 9223372036854775807) (hf : Λ.fit (pinT Λ.o lo hi' s).2) :
    Calls Try.prog 56 #[.iface Λ.lt Λ.lv, .pointer (some ⟨x, k, none⟩)] w (LPost Λ.LS [1, i] col w (pinT Λ.o lo hi' s) (fun v col' w' => Blk col' i w' x ((cs.setIfInBounds k (.int .i64 v.1)).setIfInBounds (k + 1) (.int .i64 v.2)) T) (Kep x i T cs.size)) := by
  have hm := Λ.mnum
  have he := Λ.enum
  have hn := Λ.nnum
  have HS := Lib.hid hS
  have HB := Lib.hid hB
  have HI := Lib.hid hi
  have HK := Lib.hid hk
  have HK1 := Lib.hid hk1
  have HF := Lib.hid hf
  have HR := Lib.hid (And.intro (And.intro l1 l2) (And.intro m1 m2))
  clear hi hk hk1 hf hS hB l1 l2 m1 m2
  go_enter Try.func56, Try.ntmps56
  go_wp2
  refine Ph.region_at (by kernel_rfl) ?_
  refine Ph.at_quiet 7 (by kernel_rfl) ?_
  simp only [List.take_succ_cons, List.take_zero, List.drop_succ_cons, List.drop_zero]
  repeat ((first | (apply Ph.wpPh_g; (focus (intro wq hS0; have hbq := below_call (below_drew (Below.refl _ _)) hS0; go_simp; first | exact rfl | exact ⟨rfl, Below.refl _ _⟩)))); simp only [Act.put, List.setIfInBounds_toArray, List.set_cons_zero, List.set_cons_succ])
  refine Ph.wpPh_nil ?_; intro w2 hSx
  have hb2 := below_call (below_drew (Below.refl _ _)) hSx
  clear hSx
  refine Ph.at_op rfl (by kernel_rfl) ?_

  go_wp2_with fail
  refine (Λ.cnum col w2 s i x k cs T lo (Λ.kept HS.out (Mv.of_below (S := []) hb2) (by simp)) (HB.out.kept (Mv.of_below (S := []) hb2) (by simp)) HI.out HK.out HR.out.1.1 HR.out.1.2 (fit_left (fun _ => mono_bind (Λ.fit_num _) fun _ => mono_ret _) HF.out)).mono ?_
  rintro e w3 ⟨c3, hm3, ⟨h', hr, rfl, hS3, hB3⟩ | ⟨er, hr, h0, rfl, hE⟩⟩
  rotate_left
  · exact ⟨rfl, .fail ((Mv.of_below hb2).trans hm3) (bind_error hr) h0 hE⟩
  have hM3 := (Mv.of_below (S := [1, i]) (col := col) hb2).trans hm3
  have hv : pinT Λ.o lo hi' s = ((Λ.o.num hi').bind fun x => .ret (h', x)) (Λ.o.num lo s).2 := bind_ok hr
  have HF' := HF.out
  rw [hv] at HF'
  have HF2 := Lib.hid HF'; clear HF' HF
  have HV := Lib.hid hv; clear hv
  have HS3 := Lib.hid hS3; clear hS3
  have hg1 := get_set_ne (cs := cs) (k := k) (j := k + 1) (v := .int .i64 h') (by omega)
  rw [HK1.out] at hg1
  clear hm3
  go_wp2
  refine Ph.at_end (by simp) ?_
  go_wp2
  refine Ph.region_at (by kernel_rfl) ?_
  refine Ph.at_quiet 7 (by kernel_rfl) ?_
  simp only [List.take_succ_cons, List.take_zero, List.drop_succ_cons, List.drop_zero]
  repeat ((first | (apply Ph.wpPh_g; (focus (intro wq hS0; have hbq := below_call (below_drew (Below.refl _ _)) hS0; go_simp; first | exact rfl | exact ⟨rfl, Below.refl _ _⟩)))); simp only [Act.put, List.setIfInBounds_toArray, List.set_cons_zero, List.set_cons_succ])
  refine Ph.wpPh_nil ?_; intro w4 hSx
  have hb4 := below_call (below_drew (Below.refl _ _)) hSx
  clear hSx
  refine Ph.at_op rfl (by kernel_rfl) ?_

  go_wp2_with fail
  refine (Λ.cnum c3 w4 _ i x (k + 1) _ T hi' (Λ.kept HS3.out (Mv.of_below (S := []) hb4) (by simp)) (hB3.kept (Mv.of_below (S := []) hb4) (by simp)) HI.out hg1 HR.out.2.1 HR.out.2.2 (fit_left (fun _ => mono_ret _) HF2.out)).mono ?_
  rintro e w5 ⟨c5, hm5, ⟨d', hr5, rfl, hS5, hB5⟩ | ⟨er, hr5, h0, rfl, hE⟩⟩
  rotate_left
  · exact ⟨rfl, .fail ((hM3.after_below hb4).trans hm5) (HV.out.trans (bind_error hr5)) h0 (by simpa [Kep] using hE)⟩
  go_wp2
  refine Ph.at_end (by simp) ?_
  go_wp2
  refine bodyPost_end (results_none rfl _ _ _) rfl ?_
  exact .done ((hM3.after_below hb4).trans hm5) (HV.out.trans (bind_ok hr5)) hS5 hB5
end

end Go.Proofs.Ytiklpifaaogcpaa

namespace Go.Proofs.Ytiklpifaaogcpaa
open Go.RowKit Go.Cl Go.Wr Go.Kc
set_option maxRecDepth 100000
set_option linter.unusedVariables false
set_option linter.unusedSimpArgs false


theorem LPost.mono {σ α : Type} {LS : (Nat → Nat) → World → σ → Prop} {S S' : List Nat} {col : Nat → Nat} {w : World} {r : Except Nat α × σ} {J J' : α → (Nat → Nat) → World → Prop} {E E' : (Nat → Nat) → World → Prop} {e : Ending} {w' : World}
    (h : LPost LS S col w r J E e w') (hs : ∀ z, z ∈ S → z ∈ S') (hj : ∀ a c, Mv S col w c w' → J a c w' → J' a c w') (he : ∀ c, Mv S col w c w' → E c w' → E' c w') : LPost LS S' col w r J' E' e w' := by
  obtain ⟨c, hm, h⟩ := h
  refine ⟨c, hm.sub hs, ?_⟩
  rcases h with ⟨a, h1, h2, h3, h4⟩ | h
  · exact .inl ⟨a, h1, h2, h3, hj a c hm h4⟩
  · obtain ⟨er, h1, h2, h3, h4⟩ := h
    exact .inr ⟨er, h1, h2, h3, he c hm h4⟩
theorem LPost.pre {σ α : Type} {LS : (Nat → Nat) → World → σ → Prop} {S : List Nat} {col c1 : Nat → Nat} {w w1 : World} {r : Except Nat α × σ} {J : α → (Nat → Nat) → World → Prop} {E : (Nat → Nat) → World → Prop} {e : Ending} {w' : World}
    (hm : Mv S col w c1 w1) (h : LPost LS S c1 w1 r J E e w') : LPost LS S col w r J E e w' := by
  obtain ⟨c, hm2, h⟩ := h
  exact ⟨c, hm.trans hm2, h⟩
def encW (x : Wt) : List Value := [.string x.k, .bool x.h, .string x.d]
def encS (x : ByteArray) : List Value := [.string x]
theorem encW_ok : Enc Wt encW 3 := ⟨fun _ => rfl, fun _ u hu => by simp [encW] at hu; rcases hu with rfl | rfl | rfl <;> rfl⟩
theorem encS_ok : Enc ByteArray encS 1 := ⟨fun _ => rfl, fun _ u hu => by simp [encS] at hu; subst hu; rfl⟩
def _root_.Go.Kc.Mg.cs (m : Mg) (wp : Option Addr) (wc : Nat) (kp : Option Addr) (kc : Nat) : Array Value :=
  #[.int .i64 m.kind, .int .i64 m.node, .int .i64 m.inc, .int .i64 m.ses, .int .i64 m.tx, .int .i64 m.seq, .string m.key, .int .i64 m.lo, .int .i64 m.hi, .bool m.has, .string m.data, .bool m.hit, .int .i64 m.err, .int .i64 m.n, .slice wp m.W.length wc, .slice kp m.K.length kc]
/-- A message in memory: its struct is owner 2's, its writes 3's, its keys 5's. -/
structure MsgAt (col : Nat → Nat) (w : World) (x : Nat) (m : Mg) : Prop where
  ex : ∃ wp wc kp kc, Blk col 2 w x (m.cs wp wc kp kc) 30 ∧ Row col 3 w 49 3 (.slice wp m.W.length wc) m.W.length (m.W.flatMap encW) ∧ Row col 5 w 9 1 (.slice kp m.K.length kc) m.K.length (m.K.flatMap encS)
theorem MsgAt.kept {col col' : Nat → Nat} {w w' : World} {x : Nat} {m : Mg} (h : MsgAt col w x m) {S : List Nat} (hm : Mv S col w col' w') (h2 : 2 ∉ S) (h3 : 3 ∉ S) (h5 : 5 ∉ S) : MsgAt col' w' x m := by
  obtain ⟨wp, wc, kp, kc, hb, hw, hk⟩ := h
  exact ⟨wp, wc, kp, kc, hb.kept hm h2, hw.kept hm h3, hk.kept hm h5⟩
theorem MsgAt.below {col : Nat → Nat} {w w' : World} {x : Nat} {m : Mg} (h : MsgAt col w x m) (hb : Below w.heap.size w w') : MsgAt col w' x m := h.kept (Mv.of_below (S := []) hb) (by simp) (by simp) (by simp)
theorem MsgAt.c0 {col : Nat → Nat} {w : World} {x : Nat} {m : Mg} (h : MsgAt col w x m) : w.cell? ⟨x, 0, none⟩ = some (.int .i64 m.kind) := by
  obtain ⟨wp, wc, kp, kc, hb, _⟩ := h; exact hp_cell hb.hp 0
theorem MsgAt.c11 {col : Nat → Nat} {w : World} {x : Nat} {m : Mg} (h : MsgAt col w x m) : w.cell? ⟨x, 11, none⟩ = some (.bool m.hit) := by
  obtain ⟨wp, wc, kp, kc, hb, _⟩ := h; exact hp_cell hb.hp 11
theorem MsgAt.c12 {col : Nat → Nat} {w : World} {x : Nat} {m : Mg} (h : MsgAt col w x m) : w.cell? ⟨x, 12, none⟩ = some (.int .i64 m.err) := by
  obtain ⟨wp, wc, kp, kc, hb, _⟩ := h; exact hp_cell hb.hp 12
def I64 (n : Int) : Prop := -9223372036854775808 ≤ n ∧ n ≤ 9223372036854775807
structure _root_.Go.Kc.Mg.In (m : Mg) : Prop where
  kind : I64 m.kind
  node : I64 m.node
  inc : I64 m.inc
  ses : I64 m.ses
  tx : I64 m.tx
  seq : I64 m.seq
  lo : I64 m.lo
  hi : I64 m.hi
  err : I64 m.err
  n : I64 m.n
section
variable {σ : Type} (Λ : Lane σ)
theorem f_node (col : Nat → Nat) (w : World) (s : σ) (x : Nat) (m : Mg) (hS : Λ.LS col w s) (hM : MsgAt col w x m) (hr : I64 m.node) (hf : Λ.fit (Λ.o.num m.node s).2) :
    Calls Try.prog 19 #[.iface Λ.lt Λ.lv, .pointer (some ⟨x, 1, none⟩)] w (LPost Λ.LS [1, 4, 2] col w (Λ.o.num m.node s) (fun y c w' => MsgAt c w' x { m with node := y }) (Kep x 2 30 16)) := by
  obtain ⟨wp, wc, kp, kc, hb, hw, hk⟩ := hM
  refine (c_whole Λ col w s 2 x 1 _ 30 m.node hS hb (by decide) (by decide) rfl hr.1 hr.2 hf).mono fun e w' h => h.mono (by simp) (fun y c hm hJ => ?_) (fun c hm hE => hE)
  exact ⟨wp, wc, kp, kc, hJ, hw.kept hm (by decide), hk.kept hm (by decide)⟩
theorem f_inc (col : Nat → Nat) (w : World) (s : σ) (x : Nat) (m : Mg) (hS : Λ.LS col w s) (hM : MsgAt col w x m) (hr : I64 m.inc) (hf : Λ.fit (Λ.o.num m.inc s).2) :
    Calls Try.prog 19 #[.iface Λ.lt Λ.lv, .pointer (some ⟨x, 2, none⟩)] w (LPost Λ.LS [1, 4, 2] col w (Λ.o.num m.inc s) (fun y c w' => MsgAt c w' x { m with inc := y }) (Kep x 2 30 16)) := by
  obtain ⟨wp, wc, kp, kc, hb, hw, hk⟩ := hM
  refine (c_whole Λ col w s 2 x 2 _ 30 m.inc hS hb (by decide) (by decide) rfl hr.1 hr.2 hf).mono fun e w' h => h.mono (by simp) (fun y c hm hJ => ?_) (fun c hm hE => hE)
  exact ⟨wp, wc, kp, kc, hJ, hw.kept hm (by decide), hk.kept hm (by decide)⟩
theorem f_ses (col : Nat → Nat) (w : World) (s : σ) (x : Nat) (m : Mg) (hS : Λ.LS col w s) (hM : MsgAt col w x m) (hr : I64 m.ses) (hf : Λ.fit (Λ.o.num m.ses s).2) :
    Calls Try.prog 19 #[.iface Λ.lt Λ.lv, .pointer (some ⟨x, 3, none⟩)] w (LPost Λ.LS [1, 4, 2] col w (Λ.o.num m.ses s) (fun y c w' => MsgAt c w' x { m with ses := y }) (Kep x 2 30 16)) := by
  obtain ⟨wp, wc, kp, kc, hb, hw, hk⟩ := hM
  refine (c_whole Λ col w s 2 x 3 _ 30 m.ses hS hb (by decide) (by decide) rfl hr.1 hr.2 hf).mono fun e w' h => h.mono (by simp) (fun y c hm hJ => ?_) (fun c hm hE => hE)
  exact ⟨wp, wc, kp, kc, hJ, hw.kept hm (by decide), hk.kept hm (by decide)⟩
theorem f_tx (col : Nat → Nat) (w : World) (s : σ) (x : Nat) (m : Mg) (hS : Λ.LS col w s) (hM : MsgAt col w x m) (hr : I64 m.tx) (hf : Λ.fit (Λ.o.num m.tx s).2) :
    Calls Try.prog 19 #[.iface Λ.lt Λ.lv, .pointer (some ⟨x, 4, none⟩)] w (LPost Λ.LS [1, 4, 2] col w (Λ.o.num m.tx s) (fun y c w' => MsgAt c w' x { m with tx := y }) (Kep x 2 30 16)) := by
  obtain ⟨wp, wc, kp, kc, hb, hw, hk⟩ := hM
  refine (c_whole Λ col w s 2 x 4 _ 30 m.tx hS hb (by decide) (by decide) rfl hr.1 hr.2 hf).mono fun e w' h => h.mono (by simp) (fun y c hm hJ => ?_) (fun c hm hE => hE)
  exact ⟨wp, wc, kp, kc, hJ, hw.kept hm (by decide), hk.kept hm (by decide)⟩
theorem f_seq (col : Nat → Nat) (w : World) (s : σ) (x : Nat) (m : Mg) (hS : Λ.LS col w s) (hM : MsgAt col w x m) (hr : I64 m.seq) (hf : Λ.fit (Λ.o.num m.seq s).2) :
    Calls Try.prog 19 #[.iface Λ.lt Λ.lv, .pointer (some ⟨x, 5, none⟩)] w (LPost Λ.LS [1, 4, 2] col w (Λ.o.num m.seq s) (fun y c w' => MsgAt c w' x { m with seq := y }) (Kep x 2 30 16)) := by
  obtain ⟨wp, wc, kp, kc, hb, hw, hk⟩ := hM
  refine (c_whole Λ col w s 2 x 5 _ 30 m.seq hS hb (by decide) (by decide) rfl hr.1 hr.2 hf).mono fun e w' h => h.mono (by simp) (fun y c hm hJ => ?_) (fun c hm hE => hE)
  exact ⟨wp, wc, kp, kc, hJ, hw.kept hm (by decide), hk.kept hm (by decide)⟩
theorem f_kind (col : Nat → Nat) (w : World) (s : σ) (x : Nat) (m : Mg) (hS : Λ.LS col w s) (hM : MsgAt col w x m) (hr : I64 m.kind) (hf : Λ.fit (Λ.o.num m.kind s).2) :
    Calls Try.prog 19 #[.iface Λ.lt Λ.lv, .pointer (some ⟨x, 0, none⟩)] w (LPost Λ.LS [1, 4, 2] col w (Λ.o.num m.kind s) (fun y c w' => MsgAt c w' x { m with kind := y }) (Kep x 2 30 16)) := by
  obtain ⟨wp, wc, kp, kc, hb, hw, hk⟩ := hM
  refine (c_whole Λ col w s 2 x 0 _ 30 m.kind hS hb (by decide) (by decide) rfl hr.1 hr.2 hf).mono fun e w' h => h.mono (by simp) (fun y c hm hJ => ?_) (fun c hm hE => hE)
  exact ⟨wp, wc, kp, kc, hJ, hw.kept hm (by decide), hk.kept hm (by decide)⟩
theorem f_err (col : Nat → Nat) (w : World) (s : σ) (x : Nat) (m : Mg) (hS : Λ.LS col w s) (hM : MsgAt col w x m) (hr : I64 m.err) (hf : Λ.fit (Λ.o.num m.err s).2) :
    Calls Try.prog 54 #[.iface Λ.lt Λ.lv, .pointer (some ⟨x, 12, none⟩)] w (LPost Λ.LS [1, 4, 2] col w (Λ.o.num m.err s) (fun y c w' => MsgAt c w' x { m with err := y }) (Kep x 2 30 16)) := by
  obtain ⟨wp, wc, kp, kc, hb, hw, hk⟩ := hM
  refine (c_wholeE Λ col w s 2 x 12 _ 30 m.err hS hb (by decide) (by decide) rfl hr.1 hr.2 hf).mono fun e w' h => h.mono (by simp) (fun y c hm hJ => ?_) (fun c hm hE => hE)
  exact ⟨wp, wc, kp, kc, hJ, hw.kept hm (by decide), hk.kept hm (by decide)⟩
theorem f_n (col : Nat → Nat) (w : World) (s : σ) (x : Nat) (m : Mg) (hS : Λ.LS col w s) (hM : MsgAt col w x m) (hr : I64 m.n) (hf : Λ.fit (Λ.o.num m.n s).2) :
    Calls Try.prog Λ.fnum #[Λ.recv, .pointer (some ⟨x, 13, none⟩)] w (LPost Λ.LS [1, 4, 2] col w (Λ.o.num m.n s) (fun y c w' => MsgAt c w' x { m with n := y }) (Kep x 2 30 16)) := by
  obtain ⟨wp, wc, kp, kc, hb, hw, hk⟩ := hM
  refine (Λ.cnum col w s 2 x 13 _ 30 m.n hS hb (by decide) rfl hr.1 hr.2 hf).mono fun e w' h => h.mono (by simp) (fun y c hm hJ => ?_) (fun c hm hE => hE)
  exact ⟨wp, wc, kp, kc, hJ, hw.kept hm (by decide), hk.kept hm (by decide)⟩
theorem f_key (col : Nat → Nat) (w : World) (s : σ) (x : Nat) (m : Mg) (hS : Λ.LS col w s) (hM : MsgAt col w x m) (hf : Λ.fit (Λ.o.text m.key 32 s).2) :
    Calls Try.prog Λ.ftext #[Λ.recv, .pointer (some ⟨x, 6, none⟩), .int .i64 32] w (LPost Λ.LS [1, 4, 2] col w (Λ.o.text m.key 32 s) (fun y c w' => MsgAt c w' x { m with key := y }) (Kep x 2 30 16)) := by
  obtain ⟨wp, wc, kp, kc, hb, hw, hk⟩ := hM
  refine (Λ.ctext col w s 2 x 6 _ 30 m.key 32 hS hb (by decide) rfl hf).mono fun e w' h => h.mono (by simp) (fun y c hm hJ => ?_) (fun c hm hE => hE)
  exact ⟨wp, wc, kp, kc, hJ, hw.kept hm (by decide), hk.kept hm (by decide)⟩
theorem f_hit (col : Nat → Nat) (w : World) (s : σ) (x : Nat) (m : Mg) (hS : Λ.LS col w s) (hM : MsgAt col w x m) (hf : Λ.fit (Λ.o.bool m.hit s).2) :
    Calls Try.prog Λ.fbool #[Λ.recv, .pointer (some ⟨x, 11, none⟩)] w (LPost Λ.LS [1, 4, 2] col w (Λ.o.bool m.hit s) (fun y c w' => MsgAt c w' x { m with hit := y }) (Kep x 2 30 16)) := by
  obtain ⟨wp, wc, kp, kc, hb, hw, hk⟩ := hM
  refine (Λ.cbool col w s 2 x 11 _ 30 m.hit hS hb (by decide) rfl hf).mono fun e w' h => h.mono (by simp) (fun y c hm hJ => ?_) (fun c hm hE => hE)
  exact ⟨wp, wc, kp, kc, hJ, hw.kept hm (by decide), hk.kept hm (by decide)⟩
theorem f_value (col : Nat → Nat) (w : World) (s : σ) (x : Nat) (m : Mg) (hS : Λ.LS col w s) (hM : MsgAt col w x m) (hf : Λ.fit (valueT Λ.o m.has m.data s).2) :
    Calls Try.prog 53 #[.iface Λ.lt Λ.lv, .pointer (some ⟨x, 9, none⟩)] w (LPost Λ.LS [1, 4, 2] col w (valueT Λ.o m.has m.data s) (fun y c w' => MsgAt c w' x { m with has := y.1, data := y.2 }) (Kep x 2 30 16)) := by
  obtain ⟨wp, wc, kp, kc, hb, hw, hk⟩ := hM
  refine (c_value Λ col w s 2 x 9 _ 30 m.has m.data hS hb (by decide) rfl rfl hf).mono fun e w' h => h.mono (by simp) (fun y c hm hJ => ?_) (fun c hm hE => hE)
  exact ⟨wp, wc, kp, kc, hJ, hw.kept hm (by decide), hk.kept hm (by decide)⟩
theorem f_pin (col : Nat → Nat) (w : World) (s : σ) (x : Nat) (m : Mg) (hS : Λ.LS col w s) (hM : MsgAt col w x m) (hl : I64 m.lo) (hh : I64 m.hi) (hf : Λ.fit (pinT Λ.o m.lo m.hi s).2) :
    Calls Try.prog 56 #[.iface Λ.lt Λ.lv, .pointer (some ⟨x, 7, none⟩)] w (LPost Λ.LS [1, 4, 2] col w (pinT Λ.o m.lo m.hi s) (fun y c w' => MsgAt c w' x { m with lo := y.1, hi := y.2 }) (Kep x 2 30 16)) := by
  obtain ⟨wp, wc, kp, kc, hb, hw, hk⟩ := hM
  refine (c_pin Λ col w s 2 x 7 _ 30 m.lo m.hi hS hb (by decide) rfl rfl hl.1 hl.2 hh.1 hh.2 hf).mono fun e w' h => h.mono (by simp) (fun y c hm hJ => ?_) (fun c hm hE => hE)
  exact ⟨wp, wc, kp, kc, hJ, hw.kept hm (by decide), hk.kept hm (by decide)⟩
theorem c_asked (col : Nat → Nat) (w : World) (s : σ) (x : Nat) (m : Mg) (hS : Λ.LS col w s) (hM : MsgAt col w x m) (htx : I64 m.tx) (hsq : I64 m.seq) (hf : Λ.fit (askedT Λ.o m s).2) :
    Calls Try.prog 55 #[.iface Λ.lt Λ.lv, .pointer (some ⟨x, 0, none⟩)] w (LPost Λ.LS [1, 4, 2] col w (askedT Λ.o m s) (fun y c w' => (∃ a b, y = { m with tx := a, seq := b }) ∧ MsgAt c w' x y) (Kep x 2 30 16)) := by
  have HS := Lib.hid hS
  have HM := Lib.hid hM
  have HT := Lib.hid htx
  have HQ := Lib.hid hsq
  have HF := Lib.hid hf
  clear hS hM htx hsq hf
  go_enter Try.func55, Try.ntmps55
  go_wp2_with fail
  refine (f_tx Λ col w s x m HS.out HM.out HT.out (fit_left (fun _ => mono_bind (Λ.fit_num _) fun _ => mono_ret _) HF.out)).mono ?_
  rintro e w3 ⟨c3, hm3, ⟨n', hr, rfl, hS3, hM3⟩ | ⟨er, hr, h0, rfl, hE⟩⟩
  rotate_left
  · exact ⟨rfl, .fail hm3 (bind_error hr) h0 hE⟩
  have hv : askedT Λ.o m s = ((Λ.o.num m.seq).bind fun q => .ret { m with tx := n', seq := q }) (Λ.o.num m.tx s).2 := bind_ok hr
  have HF' := HF.out
  rw [hv] at HF'
  have HF2 := Lib.hid HF'; clear HF' HF
  have HV := Lib.hid hv; clear hv
  go_wp2_with fail
  refine (f_seq Λ c3 w3 _ x _ hS3 hM3 HQ.out (fit_left (fun _ => mono_ret _) HF2.out)).mono ?_
  rintro e w5 ⟨c5, hm5, ⟨d', hr5, rfl, hS5, hB5⟩ | ⟨er, hr5, h0, rfl, hE⟩⟩
  rotate_left
  · exact ⟨rfl, .fail (hm3.trans hm5) (HV.out.trans (bind_error hr5)) h0 hE⟩
  go_wp2
  refine bodyPost_end (results_none rfl _ _ _) rfl ?_
  exact .done (hm3.trans hm5) (HV.out.trans (bind_ok hr5)) hS5 ⟨⟨_, _, rfl⟩, hB5⟩
end

end Go.Proofs.Ytiklpifaaogcpaa
