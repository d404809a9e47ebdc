/- The reference's Decode. -/
import Derived.Test.YtiklpifaaogcpaaKdc
import Derived.Test.YtiklpifaaogcpaaKdd
import Derived.Test.YtiklpifaaogcpaaKrk
import Derived.WalkKit
import Derived.WalkLawsBesides
import Derived.WalkSpells
import Derived.Below
import Derived.Deep.RegionHeld3
import Derived.Deep.QuietTactic
import Derived.BigQuiet
import Derived.Deep.DeepCutAuto
import Derived.Deep.DeepMust
import Derived.KernelRfl
import Derived.Lib.Hide
import Derived.Outline
import Derived.RegionTactic
import Derived.StillTailTactics
import Derived.Laws.IdiomStrings
import Derived.Handy
namespace Go.Proofs.Ytiklpifaaogcpaa
open Go.RowKit Go.Cl Go.Wr Go.Kc
set_option maxRecDepth 100000
set_option linter.unusedVariables false
set_option linter.unusedSimpArgs false


theorem r_client {col0 : Nat → Nat} {w0 : World} {b x : Nat} {s : ByteArray} {t : St} {w : World} {k : Int} (h1 : 1 ≤ k) (h6 : k ≤ 6) (h : RS col0 w0 b x s t (mz k) w) :
    Calls Try.prog 43 #[.pointer (some ⟨b, 0, none⟩), .pointer (some ⟨x, 0, none⟩)] w fun e w' => e = .returned (.tuple #[]) ∧ RS col0 w0 b x s (rFields s.data.toList (mz k) t).2 (rFields s.data.toList (mz k) t).1 w' := by
  obtain rfl | rfl | rfl | rfl | rfl | rfl := (by omega : k = 1 ∨ k = 2 ∨ k = 3 ∨ k = 4 ∨ k = 5 ∨ k = 6)
  · exact r_client_1 h
  · exact r_client_2 h
  · exact r_client_3 h
  · cases hh : (rBool s.data.toList (rNum s.data.toList (rNum s.data.toList t).2).2).1
    · exact r_client_4f h hh
    · exact r_client_4t h hh
  · exact r_client_5 h
  · by_cases hh : (rNum s.data.toList (rNum s.data.toList (rNum s.data.toList t).2).2).1 = 0
    · exact r_client_6t h hh
    · exact r_client_6f h hh
theorem res15 {tmps : Array Value} {x : Nat} {e : Int} (hx : tmps.getD 2 undef = .pointer (some ⟨x, 0, none⟩)) (hy : tmps.getD 3 undef = .int .i64 e) {cs : Array Value} {W : World} {t : TypeId} {fr : Nat × Nat} (h : hp W x = some (.cells cs t fr)) (hs : cs.size = 16) :
    (results Try.f15 tmps).run Try.prog W = .ok (.tuple #[.agg cs, .int .i64 e]) W := by
  have hl := run_loadVar_mid (P := Try.prog) W x 0 30 cs.toList _ (fun j v hv => by rw [Nat.zero_add, hp_cell h]; simpa using hv) Try.underlying30 rfl (by rw [info30]; simp [hs])
  simp only [Array.toArray_toList] at hl
  have hx' : tmps[2]?.getD undef = .pointer (some ⟨x, 0, none⟩) := by simpa using hx
  have hy' : tmps[3]?.getD undef = .int .i64 e := by simpa using hy
  simp [results, Try.results15, hx', hy', asAddr, hl]
theorem RS.init {col0 : Nat → Nat} {wA w : World} {col : Nat → Nat} {b : Nat} {s : ByteArray} {t : St} (hm : Mv [1, 2, 3, 5] col0 wA col w) (hr : Rds 88 col 1 w b s t) (k : Int) :
    RS col0 wA b w.heap.size s t (mz k) ((w.alloc (.cells Z30 30)).setRow w.heap.size #[.int .i64 k, .int .i64 0, .int .i64 0, .int .i64 0, .int .i64 0, .int .i64 0, .string ⟨#[]⟩, .int .i64 0, .int .i64 0, .bool false, .string ⟨#[]⟩, .bool false, .int .i64 0, .int .i64 0, .slice none 0 0, .slice none 0 0]) := by
  have hb : Below w.heap.size w ((w.alloc (.cells Z30 30)).setRow w.heap.size #[.int .i64 k, .int .i64 0, .int .i64 0, .int .i64 0, .int .i64 0, .int .i64 0, .string ⟨#[]⟩, .int .i64 0, .int .i64 0, .bool false, .string ⟨#[]⟩, .bool false, .int .i64 0, .int .i64 0, .slice none 0 0, .slice none 0 0]) := below_row (below_alloc (Below.refl _ _) _) (Nat.le_refl _) _
  refine ⟨paint col w 2, hm.trans (Mv.new hb 2), ?_, none, 0, none, 0, ⟨hp_row (hp_alloc_new w _), paint_new (Nat.le_refl _)⟩, Row.nil', Row.nil'⟩
  exact (hr.below hb).recol (by rw [paint_old (hp_lt hr.blk.hp)]; exact hr.blk.col)
theorem RS.old {col0 : Nat → Nat} {w0 w : World} {b x : Nat} {s : ByteArray} {t : St} {m : Mg} (h : RS col0 w0 b x s t m w) {g : Nat} {o : Obj} (hg : hp w0 g = some o) (hc : col0 g ∉ [1, 2, 3, 5]) : hp w g = some o := by
  obtain ⟨col, h1, h2, h3⟩ := h
  exact hp_mv hg h1 hc
theorem RS.lower {col0 : Nat → Nat} {w0 w : World} {b x : Nat} {s : ByteArray} {t : St} {m : Mg} {W : World} (hb : Below W.heap.size W w0) (h : RS col0 w0 b x s t m w) (hc : ∀ k, k < W.heap.size → col0 k = 0) : Below W.heap.size W w := by
  obtain ⟨col, h1, h2, h3⟩ := h
  exact ⟨h1.os.trans hb.os, h1.tape.trans hb.tape, h1.output.trans hb.output, Nat.le_trans hb.size h1.size, fun k hk => (h1.block k (Nat.lt_of_lt_of_le hk hb.size) (by rw [hc k hk]; simp)).trans (hb.block k hk)⟩
theorem gives_st {o : Oper} {a : Act} {w : World} {R : Value → World → Prop} (x y : Operand) (ho : o.op = .store 30 x y) (g : Nat) (cells : Array Value) (hx : a.eval x = .pointer (some ⟨g, 0, none⟩)) (hy : a.eval y = .agg cells)
    (t : TypeId) (old : Array Value) (hg : hp w g = some (.cells old t (0, 0))) (hold : old.size = 16) (hcs : cells.size = 16) (h1 : cells.all (·.oneCell') = true) (h : R undef (w.setRow g cells)) : Ph.gives Try.prog o a w R := by
  unfold Ph.gives execOp
  simp only [ho, hx, hy, Instr.storeAt, Instr.sureAddr, Sem.run_bind, Sem.run_pure, Result.andThen_ok, run_storeVar_row w g t 30 old cells hg (by rw [info30, hcs]) (by rw [hold, hcs]) h1]
  exact h
theorem rdA {s : List UInt8} {k : Int} {t : St} (h : rNum s ⟨0, 0⟩ = (k, t)) (he : t.e ≠ 0) : refdec s = (Mg.zero, ((t.e : Nat) : Int)) := by unfold refdec; rw [h]; exact if_pos he
theorem rdB {s : List UInt8} {k : Int} {t : St} (h : rNum s ⟨0, 0⟩ = (k, t)) (he : t.e = 0) (hk : ¬ (1 ≤ k ∧ k ≤ 11)) : refdec s = (Mg.zero, 13) := by unfold refdec; rw [h]; dsimp only; rw [if_neg (by rw [he]; simp), if_pos hk]
theorem rdC {s : List UInt8} {k : Int} {t : St} (h : rNum s ⟨0, 0⟩ = (k, t)) (he : t.e = 0) (hk : 1 ≤ k ∧ k ≤ 11) (hr : rEnd s (rFields s (mz k) t).2 ≠ 0) : refdec s = (Mg.zero, ((rEnd s (rFields s (mz k) t).2 : Nat) : Int)) := by
  unfold refdec; rw [h]; dsimp only; rw [if_neg (by rw [he]; simp), if_neg (by simpa using hk), if_pos hr]
theorem rdD {s : List UInt8} {k : Int} {t : St} (h : rNum s ⟨0, 0⟩ = (k, t)) (he : t.e = 0) (hk : 1 ≤ k ∧ k ≤ 11) (hr : rEnd s (rFields s (mz k) t).2 = 0) (hc : chkM (rFields s (mz k) t).1 ≠ 0) : refdec s = (Mg.zero, chkM (rFields s (mz k) t).1) := by
  unfold refdec; rw [h]; dsimp only; rw [if_neg (by rw [he]; simp), if_neg (by simpa using hk), if_neg (by simpa using hr), if_pos hc]
theorem rdE {s : List UInt8} {k : Int} {t : St} (h : rNum s ⟨0, 0⟩ = (k, t)) (he : t.e = 0) (hk : 1 ≤ k ∧ k ≤ 11) (hr : rEnd s (rFields s (mz k) t).2 = 0) (hc : chkM (rFields s (mz k) t).1 = 0) : refdec s = ((rFields s (mz k) t).1, 0) := by
  unfold refdec; rw [h]; dsimp only; rw [if_neg (by rw [he]; simp), if_neg (by simpa using hk), if_neg (by simpa using hr), if_neg (by simpa using hc)]
theorem lsW9 (w : World) : LsW w none 0 [] := ⟨⟨Nat.le_refl _, Nat.zero_le _⟩, fun i x h => by simp at h⟩
theorem lsS9 (w : World) : LsS w none 0 [] := ⟨⟨Nat.le_refl _, Nat.zero_le _⟩, fun i x h => by simp at h⟩
def RDec (s : ByteArray) (w : World) (e : Ending) (w' : World) : Prop :=
  ∃ wp wc kp kc, e = .returned (.tuple #[.agg ((refdec s.data.toList).1.cs wp wc kp kc), .int .i64 (refdec s.data.toList).2]) ∧ LsW w' wp wc (refdec s.data.toList).1.W ∧ LsS w' kp kc (refdec s.data.toList).1.K ∧ Below w.heap.size w w'

def CutA (w : World) (x : Nat) (s : ByteArray) (t1 : St) (k : Int) (W : World) : Prop := ∃ t' m', RS (paint zc w 4) (w.alloc (.cells Z30 30)) (w.heap.size + 1) x s t' m' W ∧ (k ≤ 6 → (m', t') = rFields s.data.toList (mz k) t1) ∧ (7 ≤ k → m' = { mz k with node := (rNum s.data.toList t1).1 } ∧ t' = (rNum s.data.toList t1).2)

theorem RS.fin {col0 : Nat → Nat} {w0 w : World} {b x : Nat} {s : ByteArray} {t : St} {m : Mg} (h : RS col0 w0 b x s t m w) : Calls Try.prog 49 #[.pointer (some ⟨b, 0, none⟩)] w fun e w' => e = .returned (.int .i64 (rEnd s.data.toList t)) ∧ RS col0 w0 b x s t m w' := by
  have h0 := h
  obtain ⟨col, h1, h2, h3⟩ := h0
  refine (rr_end col 1 w b s t h2).mono ?_
  rintro e w' ⟨he, n, rfl⟩
  exact ⟨he, h.below (below_drewN (Below.refl _ _) n)⟩
theorem rf_kind (s : List UInt8) (k : Int) (t : St) (h1 : 1 ≤ k) (h11 : k ≤ 6) : (rFields s (mz k) t).1.kind = k := by
  obtain rfl | rfl | rfl | rfl | rfl | rfl := (by omega : k = 1 ∨ k = 2 ∨ k = 3 ∨ k = 4 ∨ k = 5 ∨ k = 6)
  · rw [rf_1]; rfl
  · rw [rf_2]; rfl
  · rw [rf_3]; rfl
  · rw [rf_4]; unfold bnd; dsimp only; split <;> rfl
  · rw [rf_5]; rfl
  · rw [rf_6]; unfold bnd; dsimp only; split <;> rfl
def CK_Inv (col0 : Nat → Nat) (w0 : World) (b x : Nat) (s : ByteArray) (M : Mg) (T : St) (N : Nat) (t7 : Value) (wr : World) : Prop := ∃ j : Nat, t7 = .int .i64 j ∧ j ≤ N ∧ RS col0 w0 b x s (iter (rTx s.data.toList 32) j T).2 { M with K := (iter (rTx s.data.toList 32) j T).1 } wr

set_option maxHeartbeats 4000000 in
theorem c_rdecode (s : ByteArray) (hs : s.size ≤ maxLen) (w : World) : Calls Try.prog 15 #[.string s] w (RDec s w) := by
  obtain ⟨cs0, hcs0⟩ : ∃ cs0 : Array Value, cs0 = #[.string s, .int .i64 0, .int .i64 0] := ⟨_, rfl⟩
  have hbA : Below w.heap.size w (w.alloc (.cells Z30 30)) := below_alloc (Below.refl _ _) _
  have hzA := hp_alloc_new w (.cells Z30 30)
  have hbB : Below (w.alloc (.cells Z30 30)).heap.size (w.alloc (.cells Z30 30)) ((w.alloc (.cells Z30 30)).alloc (.cells cs0 88)) := below_alloc (Below.refl _ _) _
  have hzB := hp_alloc_new (w.alloc (.cells Z30 30)) (.cells cs0 88)
  have hrB : Rds 88 (paint (paint zc w 4) (w.alloc (.cells Z30 30)) 1) 1 ((w.alloc (.cells Z30 30)).alloc (.cells cs0 88)) (w.heap.size + 1) s ⟨0, 0⟩ := by
    have e1 : (w.alloc (.cells Z30 30)).heap.size = w.heap.size + 1 := by simp
    refine ⟨⟨?_, paint_new (by rw [e1]; exact Nat.le_refl _)⟩, ⟨Nat.zero_le _, .inl rfl⟩, hs⟩
    rw [← e1, hcs0] 
    rw [hcs0] at hzB
    exact hzB
  have hmB : Mv [1, 2, 3, 5] (paint zc w 4) (w.alloc (.cells Z30 30)) (paint (paint zc w 4) (w.alloc (.cells Z30 30)) 1) ((w.alloc (.cells Z30 30)).alloc (.cells cs0 88)) := Mv.new hbB 1
  have hg4 : paint zc w 4 w.heap.size = 4 := paint_new (Nat.le_refl _)
  have hz4 : ∀ k, k < w.heap.size → paint zc w 4 k = 0 := fun k hk => paint_old hk
  have HT := Lib.hid (r_take _ 1 _ _ s _ hrB)
  rcases hq0 : rNum s.data.toList ⟨0, 0⟩ with ⟨k, t1⟩
  rw [hq0] at HT
  dsimp only at HT
  have HQ := Lib.hid hq0
  clear hq0
  have HA := Lib.hid (And.intro hbA (And.intro hzA (And.intro hmB (And.intro hg4 hz4))))
  rw [hcs0] at HT HA
  clear hbA hzA hbB hzB hrB hmB hg4 hz4 hcs0
  go_enter Try.func15, Try.ntmps15
  go_wp2_with fail
  refine HT.out.mono ?_; rintro e w1 ⟨rfl, hr1, hC1⟩
  dsimp only
  iterate 4 go_step
  refine al_op rfl rfl ?_
  simp only [Act.put, List.setIfInBounds_toArray, List.set_cons_zero, List.set_cons_succ]
  refine st_op rfl (.tmp 5) (.tmp 14) rfl w1.heap.size #[.int .i64 k, .int .i64 0, .int .i64 0, .int .i64 0, .int .i64 0, .int .i64 0, .string ⟨#[]⟩, .int .i64 0, .int .i64 0, .bool false, .string ⟨#[]⟩, .bool false, .int .i64 0, .int .i64 0, .slice none 0 0, .slice none 0 0] rfl rfl Z30 (hp_alloc_new _ _) rfl rfl (by simp [Value.oneCell']) ?_
  simp only [Act.put, List.setIfInBounds_toArray, List.set_cons_zero, List.set_cons_succ]
  have hR := RS.init (HA.out.2.2.1.trans (hC1.mv' (by simp))) hr1 k
  clear hr1 hC1 HT
  generalize (w1.alloc (.cells Z30 30)).setRow w1.heap.size #[.int .i64 k, .int .i64 0, .int .i64 0, .int .i64 0, .int .i64 0, .int .i64 0, .string ⟨#[]⟩, .int .i64 0, .int .i64 0, .bool false, .string ⟨#[]⟩, .bool false, .int .i64 0, .int .i64 0, .slice none 0 0, .slice none 0 0] = w3 at *
  generalize w1.heap.size = x at *
  have hz2 := hR.old HA.out.2.1 (by rw [HA.out.2.2.2.1]; simp)
  have hbw := RS.lower HA.out.1 hR HA.out.2.2.2.2
  have hce := hR.rcells
  have HR := Lib.hid hR
  clear hR
  have HB := Lib.hid hbw
  clear hbw
  by_cases he : t1.e = 0
  rotate_left
  · have hne : ((t1.e : Int) != 0) = true := by simpa using he
    have HD := Lib.hid (rdA HQ.out he)
    clear he
    go_wp2
    refine Ph.region_at (by kernel_rfl) ?_
    refine Ph.at_free 5 7 (fun w' => w'.cell? ⟨w.heap.size + 1, 2, none⟩ = some (.int .i64 t1.e)) (by kernel_rfl) ?_
    simp only [List.take_succ_cons, List.take_zero, List.drop_succ_cons, List.drop_zero]
    apply Ph.wpF_op; (focus (intro w1 hT; go_simp; exact rfl)); simp only [Act.put, List.setIfInBounds_toArray, List.set_cons_zero, List.set_cons_succ]
    apply Ph.wpF_op; (focus (intro w1 hT; go_simp; exact rfl)); simp only [Act.put, List.setIfInBounds_toArray, List.set_cons_zero, List.set_cons_succ]
    apply Ph.wpF_op; (focus (intro w1 hT; go_simp; exact rfl)); simp only [Act.put, List.setIfInBounds_toArray, List.set_cons_zero, List.set_cons_succ]
    apply Ph.wpF_op; (focus (intro w1 hT; go_simp; exact rfl)); simp only [Act.put, List.setIfInBounds_toArray, List.set_cons_zero, List.set_cons_succ]
    apply Ph.wpF_op; (focus (intro w1 hT; go_simp; exact rfl)); simp only [Act.put, List.setIfInBounds_toArray, List.set_cons_zero, List.set_cons_succ]
    refine Ph.wpF_nil ?_
    rw [show List.range' 5 (7 - 5) = [5, 6] from rfl]
    refine Ph.wpT_gives rfl rfl (hce 2) ?_
    refine gives_st (.tmp 2) (.tmp 20) rfl w.heap.size Z30 rfl rfl 30 Z30 hz2 rfl rfl (by simp [Z30, Value.oneCell']) ?_
    simp only [List.getElem_toArray, List.getElem_cons_succ, List.getElem_cons_zero, Act.put, List.setIfInBounds_toArray, List.set_cons_zero, List.set_cons_succ]
    have hce' : (w3.drew.setRow w.heap.size Z30).cell? ⟨w.heap.size + 1, 2, none⟩ = some (.int .i64 t1.e) := by
      obtain ⟨col, m1, m2, m3⟩ := HR.out
      exact hp_cell (hp_row_ne (W := w3.drew) m2.blk.hp (by omega)) 2
    refine Ph.wpT_op rfl rfl hce' (S := fun w' => w3.drew.setRow w.heap.size Z30 = w') (by go_simp; first | exact rfl | exact ⟨rfl, rfl⟩) ?_
    rintro _ rfl
    simp only [List.getElem_toArray, List.getElem_cons_succ, List.getElem_cons_zero, Act.put, List.setIfInBounds_toArray, List.set_cons_zero, List.set_cons_succ]
    refine Ph.wpT_nil hce' ?_
    refine Ph.at_end (by simp) ?_
    go_wp2
    refine bodyPost_ret (res15 (x := w.heap.size) (e := (t1.e : Int)) (by simp) (by simp) (hp_row (W := w3.drew) hz2) rfl) rfl ⟨none, 0, none, 0, ?_, ?_, ?_, below_row (below_drew HB.out) (Nat.le_refl _) _⟩
    · rw [HD.out]; rfl
    · rw [HD.out]; exact lsW9 _
    · rw [HD.out]; exact lsS9 _
  rw [he] at hce
  have hcx := (HR.out.cells)
  obtain ⟨wp, wc, kp, kc, hcx, -, -⟩ := hcx
  dsimp only [mz, Mg.zero] at hcx
  by_cases hk : 1 ≤ k ∧ k ≤ 11
  rotate_left
  · have HD := Lib.hid (rdB HQ.out he hk)
    have HIN := Lib.hid (show ∀ W', Calls Try.prog 32 #[.int .i64 k, .int .i64 1, .int .i64 11] W' fun e w' => e = .returned (.bool false) ∧ W' = w' from fun W' => by have := c_in k 1 11 W'; rwa [show decide (1 ≤ k ∧ k ≤ 11) = false by rw [decide_eq_false_iff_not]; exact hk] at this)
    clear he hk
    go_wp2_with fail
    refine (HIN.out _).mono ?_; rintro e w5 ⟨rfl, rfl⟩
    dsimp only
    iterate 13 go_step
    refine st_op rfl (.tmp 2) (.tmp 29) rfl w.heap.size Z30 rfl rfl Z30 hz2 rfl rfl (by simp [Z30, Value.oneCell']) ?_
    simp only [Act.put, List.setIfInBounds_toArray, List.set_cons_zero, List.set_cons_succ]
    go_wp2
    refine bodyPost_ret (res15 rfl rfl (hp_row (W := w3) hz2) rfl) rfl ⟨none, 0, none, 0, ?_, ?_, ?_, below_row HB.out (Nat.le_refl _) _⟩
    · rw [HD.out]; rfl
    · rw [HD.out]; exact lsW9 _
    · rw [HD.out]; exact lsS9 _
  have HIN := Lib.hid (show ∀ W', Calls Try.prog 32 #[.int .i64 k, .int .i64 1, .int .i64 11] W' fun e w' => e = .returned (.bool true) ∧ W' = w' from fun W' => by have := c_in k 1 11 W'; rwa [show decide (1 ≤ k ∧ k ≤ 11) = true by rw [decide_eq_true_eq]; exact hk] at this)
  have HK := Lib.hid (And.intro he hk)
  clear he hk
  go_wp2_with fail
  refine (HIN.out _).mono ?_; rintro e w5 ⟨rfl, rfl⟩
  dsimp only
  iterate 12 go_step
  go_cut [2, 4, 5] (fun s2 s4 s5 W => s2 = .pointer (some ⟨w.heap.size, 0, none⟩) ∧ s4 = .pointer (some ⟨w.heap.size + 1, 0, none⟩) ∧ s5 = .pointer (some ⟨x, 0, none⟩) ∧ CutA w x s t1 k W)
  case first =>
    by_cases h6 : k ≤ 6
    · have HC := Lib.hid (r_client HK.out.2.1 h6 HR.out)
      go_wp2_with fail
      refine HC.out.mono ?_; rintro e w6 ⟨rfl, h7⟩
      go_wp2
      all_goals go_meet
      all_goals exact ⟨rfl, rfl, rfl, _, _, h7, fun _ => rfl, fun h => by omega⟩
    · have HC := HR.out.take
      go_wp2_with fail
      refine HC.mono ?_; rintro e w6 ⟨rfl, h7⟩
      obtain ⟨wp, wc, kp, kc, hcy, hf, -⟩ := h7.cells
      dsimp only [mz, Mg.zero] at hcy
      go_wp2
      all_goals go_meet
      all_goals exact ⟨rfl, rfl, rfl, _, _, h7.put_node _, fun h => by omega, fun _ => ⟨rfl, rfl⟩⟩
  case rest =>
  obtain ⟨rfl, rfl, rfl, t2, m2, hR2, h6, h7⟩ := hcut
  rename World => w4
  clear hce hcx
  iterate 2 go_step
  go_cut [2, 4, 5] (fun s2 s4 s5 W => s2 = .pointer (some ⟨w.heap.size, 0, none⟩) ∧ s4 = .pointer (some ⟨w.heap.size + 1, 0, none⟩) ∧ s5 = .pointer (some ⟨x, 0, none⟩) ∧ RS (paint zc w 4) (w.alloc (.cells Z30 30)) (w.heap.size + 1) x s (rFields s.data.toList (mz k) t1).2 (rFields s.data.toList (mz k) t1).1 W)
  case first =>
    have hk1 := HK.out.2.1
    have hk11 := HK.out.2.2
    obtain ⟨wp, wc, kp, kc, hcx, -, -⟩ := hR2.cells
    by_cases hk6 : k ≤ 6
    · have h8 := h6 hk6
      have hkd : m2.kind = k := by have := rf_kind s.data.toList k t1 hk1 hk6; rw [← h8] at this; exact this
      have c0 : w4.cell? ⟨x, 0, none⟩ = some (.int .i64 k) := by rw [hcx 0, ← hkd]; rfl
      have HF : Hid (RS (paint zc w 4) (w.alloc (.cells Z30 30)) (w.heap.size + 1) x s (rFields s.data.toList (mz k) t1).2 (rFields s.data.toList (mz k) t1).1 w4) := Lib.hid (by rw [← h8]; exact hR2)
      clear hcx h6 h7 h8 hR2 hkd HQ HK
      obtain rfl | rfl | rfl | rfl | rfl | rfl := (by omega : k = 1 ∨ k = 2 ∨ k = 3 ∨ k = 4 ∨ k = 5 ∨ k = 6)
      all_goals clear hk1 hk11 hk6
      all_goals go_wp2
      all_goals go_meet
      all_goals exact ⟨rfl, rfl, rfl, HF.out⟩
    · obtain ⟨h8, h9⟩ := h7 (by omega)
      clear hcx h6 h7
      rcases hq0 : rNum s.data.toList t1 with ⟨v0, t⟩
      rw [hq0] at h8 h9
      dsimp only at h8 h9
      subst h8 h9
      generalize t2 = t at *
      have hR0 := Lib.hid hR2
      clear hR2 HQ HK
      obtain rfl | rfl | rfl | rfl | rfl := (by omega : k = 7 ∨ k = 8 ∨ k = 9 ∨ k = 10 ∨ k = 11)
      all_goals clear hk1 hk11 hk6
      · obtain ⟨wp, wc, kp, kc, hc, hf, -⟩ := hR0.out.cells
        dsimp only [mz, Mg.zero] at hc
        go_wp2_with fail
        clear hc hf
        have h := hR0.out
        have H1 := h.text 32
        rcases hq1 : rTx s.data.toList 32 t with ⟨v1, t1⟩
        rw [hq1] at H1
        dsimp only at H1
        refine H1.mono ?_; rintro e w1 ⟨rfl, g1⟩
        obtain ⟨wp, wc, kp, kc, hc, hf, -⟩ := g1.cells
        dsimp only [mz, Mg.zero] at hc
        have h1 := Lib.hid (g1.put_key v1)
        clear H1 g1
        go_wp2_with fail
        clear hc hf
        have H2 := h1.out.val
        rcases hq2 : rVal s.data.toList t1 with ⟨v2, t2⟩
        rw [hq2] at H2
        dsimp only at H2
        obtain ⟨v2a, v2b⟩ := v2
        dsimp only at H2
        refine H2.mono ?_; rintro e w2 ⟨rfl, g2⟩
        obtain ⟨wp, wc, kp, kc, hc, hf, -⟩ := g2.cells
        dsimp only [mz, Mg.zero] at hc
        have h2 := Lib.hid ((g2.put_has v2a).put_data v2b)
        clear H2 g2
        go_wp2_with fail
        clear hc hf
        have H3 := h2.out.pin
        rcases hq3 : rPin s.data.toList t2 with ⟨v3, t3⟩
        rw [hq3] at H3
        dsimp only at H3
        obtain ⟨v3a, v3b⟩ := v3
        dsimp only at H3
        refine H3.mono ?_; rintro e w3 ⟨rfl, g3⟩
        obtain ⟨wp, wc, kp, kc, hc, hf, -⟩ := g3.cells
        dsimp only [mz, Mg.zero] at hc
        have h3 := Lib.hid ((g3.put_lo v3a).put_hi v3b)
        clear H3 g3
        go_wp2_with fail
        clear hc hf
        have H4 := h3.out.num
        rcases hq4 : rNum s.data.toList t3 with ⟨v4, t4⟩
        rw [hq4] at H4
        dsimp only at H4
        refine H4.mono ?_; rintro e w4 ⟨rfl, g4⟩
        obtain ⟨wp, wc, kp, kc, hc, hf, -⟩ := g4.cells
        dsimp only [mz, Mg.zero] at hc
        have h4 := Lib.hid (g4.put_n v4)
        clear H4 g4
        go_wp2
        all_goals go_meet
        all_goals exact ⟨rfl, rfl, rfl, by rw [rf_7]; simp only [bnd, rt, hq0, hq1, hq2, hq3, hq4]; exact h4.out⟩
      · obtain ⟨i0, hi0, hz0, hz1, hz3⟩ := info_parts Try.info9
        have HZ := Lib.hid (And.intro hi0 (And.intro hz0 (And.intro hz1 hz3)))
        clear hi0 hz0 hz1 hz3
        obtain ⟨wp, wc, kp, kc, hc, hf, -⟩ := hR0.out.cells
        dsimp only [mz, Mg.zero] at hc
        go_wp2_with fail
        clear hc hf
        have H1 := hR0.out.num
        rcases hq1 : rNum s.data.toList t with ⟨v1, t3⟩
        rw [hq1] at H1
        dsimp only at H1
        refine H1.mono ?_; rintro e w5 ⟨rfl, g1⟩
        obtain ⟨wp, wc, kp, kc, hc, hf, -⟩ := g1.cells
        dsimp only [mz, Mg.zero] at hc
        have h1 := Lib.hid (g1.put_n v1)
        clear H1 g1
        go_wp2_with fail
        clear hc hf
        have H2 := h1.out.count
        rcases hq2 : rCount s.data.toList t3 with ⟨nn, T⟩
        have HN := rCount_le s.data.toList t3
        rw [hq2] at H2 HN
        dsimp only at H2 HN
        obtain ⟨N, hN⟩ : ∃ N : Nat, nn = (N : Int) := ⟨nn.toNat, by omega⟩
        subst hN
        have hN8 : N ≤ 8 := by omega
        clear HN
        have HEQ : Hid (rFields s.data.toList (mz 8) t1 = ({ mz 8 with node := v0, n := v1, K := (iter (rTx s.data.toList 32) N T).1 }, (iter (rTx s.data.toList 32) N T).2)) := Lib.hid (by rw [rf_8]; simp only [bnd, rt, rList, hq0, hq1, hq2]; rw [show ((N : Int)).toNat = N by omega])
        refine H2.mono ?_; rintro e w6 ⟨rfl, g3⟩
        clear H2 h1 hR0
        go_wp2
        go_loopw [7] (CK_Inv (paint zc w 4) (w.alloc (.cells Z30 30)) (w.heap.size + 1) x s ({ mz 8 with node := v0, n := v1 } : Mg) T N) (fun t _ => (N - (intOf t).toNat))
        case atStart => exact ⟨0, rfl, Nat.zero_le _, g3⟩
        case round =>
          obtain ⟨j, rfl, hj, hR⟩ := hrel
          by_cases hlt : j < N
          · rcases hI : iter (rTx s.data.toList 32) j T with ⟨L, tj⟩
            have HLl := Lib.hid (show L.length = j by have := iter_len (rTx s.data.toList 32) j T; rw [hI] at this; exact this)
            rw [hI] at hR
            dsimp only at hR
            rcases hq4 : rTx s.data.toList 32 tj with ⟨key, t5⟩
            have HNX : Hid (iter (rTx s.data.toList 32) (j + 1) T = (L ++ [key], t5)) := Lib.hid (by show ((iter (rTx s.data.toList 32) j T).1 ++ [(rTx s.data.toList 32 (iter (rTx s.data.toList 32) j T).2).1], (rTx s.data.toList 32 (iter (rTx s.data.toList 32) j T).2).2) = _; rw [hI]; simp only [hq4])
            clear hI
            obtain ⟨wp, wc, kp, kc, hX⟩ := hR.rx
            have hX0 := hX.below (below_drew (Below.refl _ _))
            clear hR hX
            go_wp2
            refine Ph.region_at (by kernel_rfl) ?_
            refine Ph.at_free 3 6 (fun w' => w'.cell? ⟨x, 15, none⟩ = some (.slice kp L.length kc)) (by kernel_rfl) ?_
            simp only [List.take_succ_cons, List.take_zero, List.drop_succ_cons, List.drop_zero]
            apply Ph.wpF_op; (focus (intro w1 hT; go_simp; exact rfl)); simp only [Act.put, List.setIfInBounds_toArray, List.set_cons_zero, List.set_cons_succ]
            apply Ph.wpF_op; (focus (intro w1 hT; go_simp; exact rfl)); simp only [Act.put, List.setIfInBounds_toArray, List.set_cons_zero, List.set_cons_succ]
            apply Ph.wpF_op; (focus (intro w1 hT; go_simp; exact rfl)); simp only [Act.put, List.setIfInBounds_toArray, List.set_cons_zero, List.set_cons_succ]
            refine Ph.wpF_nil ?_
            rw [show List.range' 3 (6 - 3) = [3, 4, 5] from rfl]
            refine Ph.wpT_op rfl rfl (hX0.cells.1 15) (v := .string key) (S := fun w' => RX (paint zc w 4) (w.alloc (.cells Z30 30)) (w.heap.size + 1) x s t5 ({ mz 8 with node := v0, n := v1, K := L } : Mg) wp wc kp kc w') (by have h9 := hX0.text 32 hq4; go_simp; refine h9.mono ?_; rintro e w2 ⟨rfl, h⟩; exact ⟨rfl, h⟩) ?_
            intro w2 hS
            simp only [List.getElem_toArray, List.getElem_cons_succ, List.getElem_cons_zero, Act.put, List.setIfInBounds_toArray, List.set_cons_zero, List.set_cons_succ]
            have hbA : Below w2.heap.size w2 (w2.alloc (.cells #[.string key] 9)) := below_alloc (Below.refl _ _) _
            refine Ph.wpT_op rfl rfl (hS.cells.1 15) (S := fun w' => w2.alloc (.cells #[.string key] 9) = w') (by go_simp; first | exact rfl | exact ⟨rfl, rfl⟩) ?_
            rintro _ rfl
            simp only [List.getElem_toArray, List.getElem_cons_succ, List.getElem_cons_zero, Act.put, List.setIfInBounds_toArray, List.set_cons_zero, List.set_cons_succ]
            have hSA := hS.below hbA
            refine Ph.wpT_gives rfl rfl (hSA.cells.1 15) ?_
            obtain ⟨col, m1, m2, m3, m4, m5⟩ := hSA
            have hcA := hp_cell (hp_alloc_new w2 (.cells #[.string key] 9))
            refine gives_append_col (.tmp 67) (.tmp 70) 28 rfl 9 i0 (.string ⟨#[]⟩) 1 16 Try.underlying28 HZ.out.1 HZ.out.2.1 HZ.out.2.2.1 HZ.out.2.2.2 rfl (by decide) (.slice kp L.length kc) L.length (L.flatMap encS) rfl m5 ⟨w2.heap.size, 0, none⟩ 1 1 (encS key) rfl rfl (fun j u hu => by have := hcA j; rw [Addr.add_lit, Nat.zero_add, this]; simpa [encS] using hu) (encS_one _) ?c3 ?c4 ?kk
            case c3 => have := HLl.out; unfold maxLen; omega
            case c4 => have := HLl.out; omega
            case kk =>
            intro p' c' w3' hr3 hC3 hg3
            have mb := m3.kept hC3.mv (by simp)
            have hcb := hp_cell mb.hp
            have hfb := hp_free mb.hp
            simp only [List.getElem_toArray, List.getElem_cons_succ, List.getElem_cons_zero, Act.put, List.setIfInBounds_toArray, List.set_cons_zero, List.set_cons_succ]
            refine Ph.wpT_nil (hcb 15) ?_
            dsimp only [Mg.cs, mz, Mg.zero] at hcb
            have HF := Lib.hid (rx_growK m1 m2 m3 m4 (e := key) hr3 hC3)
            clear m1 m2 m3 m4 m5 hr3 hC3 hg3 mb hbA hcA hS hX0
            refine Ph.at_op rfl (by kernel_rfl) ?_
            go_wp2
            refine Ph.at_op rfl (by kernel_rfl) ?_
            go_wp2
            refine Ph.at_end (by simp) ?_
            go_wp2
            go_roundw
            case rel => exact ⟨j + 1, by go_num, by omega, by rw [HNX.out]; exact HF.out⟩
            case measure => simp [intOf]; omega
          · obtain rfl : j = N := by omega
            have hR' := Lib.hid hR
            clear hR
            go_wp2
            all_goals go_meet
            all_goals exact ⟨rfl, rfl, rfl, by rw [HEQ.out]; exact hR'.out⟩
      · obtain ⟨wp, wc, kp, kc, hc, hf, -⟩ := hR0.out.cells
        dsimp only [mz, Mg.zero] at hc
        go_wp2_with fail
        clear hc hf
        have h := hR0.out
        have H1 := h.num
        rcases hq1 : rNum s.data.toList t with ⟨v1, t1⟩
        rw [hq1] at H1
        dsimp only at H1
        refine H1.mono ?_; rintro e w1 ⟨rfl, g1⟩
        obtain ⟨wp, wc, kp, kc, hc, hf, -⟩ := g1.cells
        dsimp only [mz, Mg.zero] at hc
        have h1 := Lib.hid (g1.put_n v1)
        clear H1 g1
        go_wp2
        all_goals go_meet
        all_goals exact ⟨rfl, rfl, rfl, by rw [rf_9]; simp only [bnd, rt, hq0, hq1]; exact h1.out⟩
      · obtain ⟨wp, wc, kp, kc, hc, hf, -⟩ := hR0.out.cells
        dsimp only [mz, Mg.zero] at hc
        go_wp2_with fail
        clear hc hf
        have h := hR0.out
        have H1 := h.take
        rcases hq1 : rNum s.data.toList t with ⟨v1, t1⟩
        rw [hq1] at H1
        dsimp only at H1
        refine H1.mono ?_; rintro e w1 ⟨rfl, g1⟩
        obtain ⟨wp, wc, kp, kc, hc, hf, -⟩ := g1.cells
        dsimp only [mz, Mg.zero] at hc
        have h1 := Lib.hid (g1.put_inc v1)
        clear H1 g1
        go_wp2
        all_goals go_meet
        all_goals exact ⟨rfl, rfl, rfl, by rw [rf_10]; simp only [bnd, rt, hq0, hq1]; exact h1.out⟩
      · obtain ⟨wp, wc, kp, kc, hc, hf, -⟩ := hR0.out.cells
        dsimp only [mz, Mg.zero] at hc
        go_wp2_with fail
        clear hc hf
        have h := hR0.out
        have H1 := h.take
        rcases hq1 : rNum s.data.toList t with ⟨v1, t1⟩
        rw [hq1] at H1
        dsimp only at H1
        refine H1.mono ?_; rintro e w1 ⟨rfl, g1⟩
        obtain ⟨wp, wc, kp, kc, hc, hf, -⟩ := g1.cells
        dsimp only [mz, Mg.zero] at hc
        have h1 := Lib.hid (g1.put_inc v1)
        clear H1 g1
        go_wp2_with fail
        clear hc hf
        have H2 := h1.out.num
        rcases hq2 : rNum s.data.toList t1 with ⟨v2, t2⟩
        rw [hq2] at H2
        dsimp only at H2
        refine H2.mono ?_; rintro e w2 ⟨rfl, g2⟩
        obtain ⟨wp, wc, kp, kc, hc, hf, -⟩ := g2.cells
        dsimp only [mz, Mg.zero] at hc
        have h2 := Lib.hid (g2.put_n v2)
        clear H2 g2
        go_wp2
        all_goals go_meet
        all_goals exact ⟨rfl, rfl, rfl, by rw [rf_11]; simp only [bnd, rt, hq0, hq1, hq2]; exact h2.out⟩
  case rest =>
  obtain ⟨rfl, rfl, rfl, hR5⟩ := hcut
  rename World => w6
  clear h6 h7 hR2
  have HCq := HQ.out
  rcases hF : rFields s.data.toList (mz k) t1 with ⟨m, t⟩
  rw [hF] at hR5
  dsimp only at hR5
  have HM := Lib.hid hF
  clear hF HCq
  have hFI := hR5.fin
  go_wp2_with fail
  refine hFI.mono ?_; rintro e w7 ⟨rfl, h7⟩
  clear hFI hR5
  dsimp only
  have hz7 := h7.old HA.out.2.1 (by rw [HA.out.2.2.2.1]; simp)
  have HB7 := Lib.hid (RS.lower HA.out.1 h7 HA.out.2.2.2.2)
  obtain ⟨wp, wc, kp, kc, col, m1, m2, m3, m4, m5⟩ := h7.rx
  have hx7 := m3.hp
  have hc4 : col w.heap.size = 4 := by rw [m1.col _ (hp_lt HA.out.2.1)]; exact HA.out.2.2.2.1
  have HL := Lib.hid (And.intro (row_lsW m4) (row_lsS m5))
  have HX := Lib.hid (And.intro m4 (And.intro m5 hc4))
  clear h7 m1 m2 m3 m4 m5 hc4
  by_cases hr : rEnd s.data.toList t = 0
  rotate_left
  · have HD := Lib.hid (show refdec s.data.toList = (Mg.zero, ((rEnd s.data.toList t : Nat) : Int)) from by have := rdC HQ.out HK.out.1 HK.out.2; rw [HM.out] at this; exact this hr)
    have he1 : ((rEnd s.data.toList t : Int) == 0) = false := by simpa using hr
    have he2 : ((rEnd s.data.toList t : Int) != 0) = true := by simpa using hr
    clear hr HM HQ HK
    generalize rEnd s.data.toList t = E at *
    iterate 44 go_step
    refine st_op rfl (.tmp 2) (.tmp 98) rfl w.heap.size Z30 rfl rfl Z30 hz7 rfl rfl (by simp [Z30, Value.oneCell']) ?_
    simp only [Act.put, List.setIfInBounds_toArray, List.set_cons_zero, List.set_cons_succ]
    go_wp2
    refine bodyPost_ret (res15 rfl rfl (hp_row (W := w7) hz7) rfl) rfl ⟨none, 0, none, 0, ?_, ?_, ?_, below_row HB7.out (Nat.le_refl _) _⟩
    · rw [HD.out]; rfl
    · rw [HD.out]; exact lsW9 _
    · rw [HD.out]; exact lsS9 _
  rw [hr]
  have HRR := Lib.hid hr
  clear hr
  have HCK := Lib.hid (c_rcheck m wp wc kp kc)
  have HZ : Hid ((m.cs wp wc kp kc).size = 16 ∧ (m.cs wp wc kp kc).all (·.oneCell') = true) := Lib.hid ⟨rfl, by simp [Mg.cs, Value.oneCell']⟩
  have HCS : Hid (∀ A, m.cs wp wc kp kc = A → m.cs wp wc kp kc = A) := Lib.hid (fun _ h => h)
  obtain ⟨A, hA⟩ : ∃ A, A = m.cs wp wc kp kc := ⟨_, rfl⟩
  rw [← hA] at HCK HZ hx7
  have HAA := Lib.hid hA
  clear hA HCS
  iterate 21 go_step
  refine ld_op rfl (.tmp 5) rfl x rfl A hx7 HZ.out.1 ?_
  simp only [Act.put, List.setIfInBounds_toArray, List.set_cons_zero, List.set_cons_succ]
  go_wp2_with fail
  refine (HCK.out _ HL.out.1 (Nat.le_trans HL.out.1.cap.1 HL.out.1.cap.2) HL.out.2 (Nat.le_trans HL.out.2.cap.1 HL.out.2.cap.2)).mono ?_
  rintro e w8 ⟨rfl, hb8⟩
  have hb88 := below_call HB7.out hb8
  have hz8 := hp_below hb8 hz7
  have hx8 := hp_below hb8 hx7
  have HX8 := Lib.hid (And.intro (HX.out.1.kept (Mv.of_below (S := []) (col := col) hb8) (by simp)) (And.intro (HX.out.2.1.kept (Mv.of_below (S := []) (col := col) hb8) (by simp)) HX.out.2.2))
  clear hb8 hz7 hx7 HL HCK
  dsimp only
  by_cases hc : chkM m = 0
  rotate_left
  · have HD := Lib.hid (show refdec s.data.toList = (Mg.zero, chkM m) from by have := rdD HQ.out HK.out.1 HK.out.2; rw [HM.out] at this; exact this HRR.out hc)
    have hne : (chkM m != 0) = true := by simpa using hc
    clear hc
    generalize chkM m = E at *
    iterate 28 go_step
    refine st_op rfl (.tmp 2) (.tmp 98) rfl w.heap.size Z30 rfl rfl Z30 hz8 rfl rfl (by simp [Z30, Value.oneCell']) ?_
    simp only [Act.put, List.setIfInBounds_toArray, List.set_cons_zero, List.set_cons_succ]
    go_wp2
    refine bodyPost_ret (res15 rfl rfl (hp_row (W := w8) hz8) rfl) rfl ⟨none, 0, none, 0, ?_, ?_, ?_, below_row hb88 (Nat.le_refl _) _⟩
    · rw [HD.out]; rfl
    · rw [HD.out]; exact lsW9 _
    · rw [HD.out]; exact lsS9 _
  have HD := Lib.hid (show refdec s.data.toList = (m, 0) from by have := rdE HQ.out HK.out.1 HK.out.2; rw [HM.out] at this; exact this HRR.out hc)
  rw [hc]
  iterate 25 go_step
  refine ld_op rfl (.tmp 5) rfl x rfl A hx8 HZ.out.1 ?_
  simp only [Act.put, List.setIfInBounds_toArray, List.set_cons_zero, List.set_cons_succ]
  refine st_op rfl (.tmp 2) (.tmp 100) rfl w.heap.size A rfl rfl Z30 hz8 rfl HZ.out.1 HZ.out.2 ?_
  simp only [Act.put, List.setIfInBounds_toArray, List.set_cons_zero, List.set_cons_succ]
  have hm9 : Mv [4] col w8 col (w8.setRow w.heap.size A) := mv_row Mv.refl (by rw [HX8.out.2.2]; simp) A
  go_wp2
  refine bodyPost_ret (res15 rfl rfl (hp_row (W := w8) hz8) HZ.out.1) rfl ⟨wp, wc, kp, kc, ?_, ?_, ?_, below_row hb88 (Nat.le_refl _) _⟩
  · rw [HD.out, HAA.out]
  · rw [HD.out]; exact row_lsW (HX8.out.1.kept hm9 (by simp))
  · rw [HD.out]; exact row_lsS (HX8.out.2.1.kept hm9 (by simp))

end Go.Proofs.Ytiklpifaaogcpaa
