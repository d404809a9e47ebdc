/- Texts laid together: Kd Kde. -/
import Derived.Test.YtiklpifaaogcpaaKz
import Derived.Test.YtiklpifaaogcpaaKg
import Derived.Test.YtiklpifaaogcpaaKen
import Derived.WalkKit
import Derived.WalkLawsBesides
import Derived.WalkSpells
import Derived.Below
import Derived.Deep.RegionHeld3
import Derived.Deep.QuietTactic
import Derived.BigQuiet
import Derived.Deep.DeepCutAuto
import Derived.Deep.DeepMust
import Derived.KernelRfl
import Derived.Lib.Hide
import Derived.Outline
import Derived.RegionTactic
import Derived.StillTailTactics
import Derived.Laws.IdiomStrings
import Derived.Handy
import Derived.Defers
import Derived.Recover
namespace Go.Proofs.Ytiklpifaaogcpaa
open Go.RowKit Go.Cl Go.Wr Go.Kc
set_option maxRecDepth 100000
set_option linter.unusedVariables false
set_option linter.unusedSimpArgs false


theorem ta_ok (v : Value) (w : World) : (Instr.typeAssert (.iface 79 v) 20 79 true).run Try.prog w = .ok (.tuple #[v, .bool true]) w := by kernel_rfl
theorem ta_no (w : World) : (Instr.typeAssert .nilIface 20 79 true).run Try.prog w = .ok (.tuple #[.agg #[.int .i64 0], .bool false]) w := by kernel_rfl
theorem gv_st30 {o : Oper} {a : Act} {w : World} {S : World → Prop} (x y : Operand) (ho : o.op = .store 30 x y) (g : Nat) (cs' : Array Value) (hx : a.eval x = .pointer (some ⟨g, 0, none⟩)) (hy : a.eval y = .agg cs') (cs : Array Value) {t : TypeId} (h : hp w g = some (.cells cs t (0, 0))) (hs : cs.size = 16) (hs' : cs'.size = 16) (h1 : cs'.all (·.oneCell') = true)
    (hS : S (w.setRow g cs')) : Ph.givesV Try.prog o a w undef S := by
  unfold Ph.givesV execOp
  simp only [ho, hx, hy, Instr.storeAt, Instr.sureAddr, Sem.run_bind, Sem.run_pure, Result.andThen_ok, run_storeVar_row w g t 30 cs cs' h (by rw [info30, hs']) (by rw [hs, hs']) h1]
  exact ⟨rfl, hS⟩
/-- What is known in the phases of the closure's last statement. -/
def CatS (col c : Nat → Nat) (w : World) (x y z : Nat) (cs : Array Value) (er : Int) (k : Nat) (w1 : World) : Prop :=
  Mv [2, 6] col w c w1 ∧ hp w1 z = some (.cells #[.int .i64 er] 79 (0, 0)) ∧ hp w1 x = some (.cells (if k = 0 then cs else Z30) 30 (0, 0)) ∧ hp w1 y = some (.cells #[.int .i64 (if k ≤ 1 then 0 else er)] 26 (0, 0))
theorem catS_mono (col c : Nat → Nat) (w : World) (x y z : Nat) (cs : Array Value) (er : Int) : Ph.Mono (CatS col c w x y z cs er) := fun k w1 w2 h hb => ⟨h.1.after_below hb, hp_below hb h.2.1, hp_below hb h.2.2.1, hp_below hb h.2.2.2⟩
set_option maxHeartbeats 2000000 in
theorem catch_pan (col : Nat → Nat) (w : World) (x y : Nat) (cs : Array Value) (hcs : cs.size = 16) (er : Int) (hx : Blk col 2 w x cs 30) (hy : Blk col 6 w y #[.int .i64 0] 26) :
    CallsD Try.prog 39 #[.pointer (some ⟨x, 0, none⟩), .pointer (some ⟨y, 0, none⟩)] (.panicking [{ v := .iface 79 (.agg #[.int .i64 er]), recovered := false }]) w fun e u' w' =>
      e = .returned (.tuple #[]) ∧ u' = .panicking [{ v := .iface 79 (.agg #[.int .i64 er]), recovered := true }] ∧ ∃ c', Blk c' 2 w' x Z30 30 ∧ Blk c' 6 w' y #[.int .i64 er] 26 ∧ Mv [2, 6] col w c' w' := by
  have hxy : x ≠ y := by intro e; have h1 := hx.col; have h2 := hy.col; rw [e, h2] at h1; cases h1
  have hxl := hp_lt hx.hp
  have hyl := hp_lt hy.hp
  have hta := ta_ok
  refine callsD_of_wpS Try.func39 rfl fun c₀ fs hu => ?_
  rw [show ((#[.pointer (some ⟨x, 0, none⟩), .pointer (some ⟨y, 0, none⟩)] : Array Value) ++ Array.replicate (Try.f39.ntmps - (#[.pointer (some ⟨x, 0, none⟩), .pointer (some ⟨y, 0, none⟩)] : Array Value).size) undef) = #[.pointer (some ⟨x, 0, none⟩), .pointer (some ⟨y, 0, none⟩), undef, undef, undef, undef, undef, undef, undef, undef, undef, undef, undef] from by kernel_rfl]
  apply wpS_seq
  apply wpS_region
  simp [wpOpsS, go_sem, recoverD, hu, Try.ntmps39, Exit.thenS, hta]
  apply wpS_seq
  apply wpS_region
  simp [wpOpsS, go_sem, Exit.thenS]
  refine wpS_cond (t := true) (by simp [Act.eval, Array.replicate]) ?_
  simp only [if_true]
  refine wpS_of_wp ?_
  have hb : Below w.heap.size w (w.alloc (.cells #[.int .i64 er] 79)) := below_alloc (Below.refl _ _) _
  have HS : Hid (CatS col (paint col w 7) w x y w.heap.size cs er 0 (w.alloc (.cells #[.int .i64 er] 79))) := Lib.hid ⟨Mv.new hb 7, hp_alloc_new _ _, hp_alloc_old hx.hp _, hp_alloc_old hy.hp _⟩
  have HC := Lib.hid (And.intro hx.col hy.col)
  clear hx hy hb
  generalize hz : w.heap.size = z at *
  have nxz : x ≠ z := by omega
  have nyz : y ≠ z := by omega
  clear hta
  generalize w.alloc (.cells #[.int .i64 er] 79) = w0 at *
  refine Ph.region_at (by kernel_rfl) ?_
  refine Ph.at_stage 5 (fun i => if i < 0 then (0, 100, 0) else ([(0, 0, 0), (0, 1, 0), (0, 1, 0), (0, 0, 1), (1, 1, 1)] : List (Nat × Nat × Nat)).getD (i - 0) (0, 0, 0)) (CatS col (paint col w 7) w x y z cs er) (by kernel_rfl) (by kernel_rfl) (catS_mono _ _ _ _ _ _ _ _ 0 _ _ HS.out (below_drew (Below.refl _ _))) ?_
  simp only [List.take_succ_cons, List.take_zero, List.drop_succ_cons, List.drop_zero]
  apply Ph.wpPh_q (catS_mono _ _ _ _ _ _ _ _) 0 0 rfl rfl; (focus (intro k0 hk1 hk2 w1 hS0; go_simp; first | exact rfl | exact ⟨rfl, Below.refl _ _⟩)); simp only [Act.put, List.setIfInBounds_toArray, List.set_cons_zero, List.set_cons_succ]
  apply Ph.wpPh_q (catS_mono _ _ _ _ _ _ _ _) 0 1 rfl rfl; (focus (intro k0 hk1 hk2 w1 hS0; go_simp; first | exact rfl | exact ⟨rfl, Below.refl _ _⟩)); simp only [Act.put, List.setIfInBounds_toArray, List.set_cons_zero, List.set_cons_succ]
  apply Ph.wpPh_q (catS_mono _ _ _ _ _ _ _ _) 0 1 rfl rfl; (focus (intro k0 hk1 hk2 w1 hS0; have hcz : w1.cell? ⟨z, 0, none⟩ = some (.int .i64 er) := hp_cell hS0.2.1 0; clear hS0; go_simp; first | exact rfl | exact ⟨rfl, Below.refl _ _⟩)); simp only [Act.put, List.setIfInBounds_toArray, List.set_cons_zero, List.set_cons_succ]
  apply Ph.wpPh_e 0 rfl rfl; (focus (intro w1 hS0; refine gv_st30 (.tmp 0) (.tmp 10) rfl x Z30 rfl rfl cs hS0.2.2.1 hcs rfl (by simp [Z30, Value.oneCell']) ⟨mv_row hS0.1 (by rw [paint_old (by omega), HC.out.1]; simp) _, hp_row_ne hS0.2.1 nxz.symm, hp_row hS0.2.2.1, hp_row_ne hS0.2.2.2 hxy.symm⟩)); simp only [Act.put, List.setIfInBounds_toArray, List.set_cons_zero, List.set_cons_succ]
  apply Ph.wpPh_e 1 rfl rfl; (focus (intro w1 hS0; have hcy : w1.cell? ⟨y, 0, none⟩ = some (.int .i64 0) := hp_cell hS0.2.2.2 0; have hfy := hp_free hS0.2.2.2 0; have HSS := Lib.hid hS0; clear hS0; go_simp; exact ⟨rfl, mv_set HSS.out.1 (p := ⟨y, 0, none⟩) (by show paint col w 7 y ∈ _; rw [paint_old (by omega), HC.out.2]; simp) _, hp_set_ne HSS.out.2.1 (p := ⟨y, 0, none⟩) nyz.symm _, hp_set_ne HSS.out.2.2.1 (p := ⟨y, 0, none⟩) hxy _, hp_set HSS.out.2.2.2 _⟩)); simp only [Act.put, List.setIfInBounds_toArray, List.set_cons_zero, List.set_cons_succ]
  refine Ph.wpPh_nil ?_; intro w2 hS2
  refine Ph.at_end (by simp) ?_
  obtain ⟨hm, h1, h2, h3⟩ := (show CatS col (paint col w 7) w x y z cs er 2 w2 from hS2)
  cases c₀
  simp_all [bodyPostS, results, Try.results39, Exit.thenS]
  exact ⟨paint col w 7, ⟨h2, by rw [paint_old (by omega)]; exact HC.out.1⟩, ⟨h3, by rw [paint_old (by omega)]; exact HC.out.2⟩, hm⟩
theorem catch_idle (w : World) (x y : Nat) :
    CallsD Try.prog 39 #[.pointer (some ⟨x, 0, none⟩), .pointer (some ⟨y, 0, none⟩)] .returning w fun e u' w' => e = .returned (.tuple #[]) ∧ u' = .returning ∧ Below w.heap.size w w' := by
  have hta := ta_no
  refine callsD_of_wpS Try.func39 rfl fun c₀ fs hu => ?_
  rw [show ((#[.pointer (some ⟨x, 0, none⟩), .pointer (some ⟨y, 0, none⟩)] : Array Value) ++ Array.replicate (Try.f39.ntmps - (#[.pointer (some ⟨x, 0, none⟩), .pointer (some ⟨y, 0, none⟩)] : Array Value).size) undef) = #[.pointer (some ⟨x, 0, none⟩), .pointer (some ⟨y, 0, none⟩), undef, undef, undef, undef, undef, undef, undef, undef, undef, undef, undef] from by kernel_rfl]
  apply wpS_seq
  apply wpS_region
  simp [wpOpsS, go_sem, recoverD, hu, Try.ntmps39, Exit.thenS, hta]
  apply wpS_seq
  apply wpS_region
  simp [wpOpsS, go_sem, Exit.thenS]
  refine wpS_cond (t := false) (by simp [Act.eval]) ?_
  simp only [Bool.false_eq_true, if_false]
  refine wpS_of_wp (wp_skip ?_)
  cases c₀
  simp_all [bodyPostS, results, Try.results39]
  exact below_alloc (Below.refl _ _) _

end Go.Proofs.Ytiklpifaaogcpaa

namespace Go.Proofs.Ytiklpifaaogcpaa
open Go.RowKit Go.Cl Go.Wr Go.Kc
set_option maxRecDepth 100000
set_option linter.unusedVariables false
set_option linter.unusedSimpArgs false


/-- The message that the bytes are, or what is wrong with them. -/
noncomputable def decode (s : List UInt8) : Except Int Mg :=
  match (inO s).num 0 0 with
  | (.error e, _) => .error e
  | (.ok kind, p) =>
    if 1 ≤ kind ∧ kind ≤ 11 then
      match fieldsT (inO s) { Mg.zero with kind := kind } p with
      | (.error e, _) => .error e
      | (.ok m, p') => if rEnd s ⟨p', 0⟩ ≠ 0 then .error (rEnd s ⟨p', 0⟩) else if chkM m ≠ 0 then .error (chkM m) else .ok m
    else .error 13
/-- What Decode leaves. -/
def DecP (s : List UInt8) (w : World) (e : Ending) (w' : World) : Prop :=
  Below w.heap.size w w' ∧ ((∃ er, decode s = .error er ∧ e = .returned (.tuple #[.agg Z30, .int .i64 er])) ∨
    (∃ m c wp wc kp kc, decode s = .ok m ∧ e = .returned (.tuple #[.agg (m.cs wp wc kp kc), .int .i64 0]) ∧ (∀ k, k < w.heap.size → c k = 0) ∧ Row c 3 w' 49 3 (.slice wp m.W.length wc) m.W.length (m.W.flatMap encW) ∧ Row c 5 w' 9 1 (.slice kp m.K.length kc) m.K.length (m.K.flatMap encS)))
theorem res14 {tmps : Array Value} {x y : Nat} (hx : tmps.getD 2 undef = .pointer (some ⟨x, 0, none⟩)) (hy : tmps.getD 3 undef = .pointer (some ⟨y, 0, none⟩)) {cs : Array Value} {W : World} {t : TypeId} {fr : Nat × Nat} (h : hp W x = some (.cells cs t fr)) (hs : cs.size = 16) {e : Int} {t' : TypeId} {fr' : Nat × Nat} (h' : hp W y = some (.cells #[.int .i64 e] t' fr')) :
    (results Try.f14 tmps).run Try.prog W = .ok (.tuple #[.agg cs, .int .i64 e]) W := by
  have hl := run_loadVar_mid (P := Try.prog) W x 0 30 cs.toList _ (fun j v hv => by rw [Nat.zero_add, hp_cell h]; simpa using hv) Try.underlying30 rfl (by rw [info30]; simp [hs])
  simp only [Array.toArray_toList] at hl
  have hc : W.cell? ⟨y, 0, none⟩ = some (.int .i64 e) := hp_cell h' 0
  have hx' : tmps[2]?.getD undef = .pointer (some ⟨x, 0, none⟩) := by simpa using hx
  have hy' : tmps[3]?.getD undef = .pointer (some ⟨y, 0, none⟩) := by simpa using hy
  have hl2 : (loadVar 26 ⟨y, 0, none⟩).run Try.prog W = .ok (.int .i64 e) W := by simp [go_sem, hc]
  simp [results, Try.results14, hx', hy', asAddr, hl, hl2]
theorem leaves_ret {tmps : Array Value} {x y : Nat} (hx : tmps.getD 2 undef = .pointer (some ⟨x, 0, none⟩)) (hy : tmps.getD 3 undef = .pointer (some ⟨y, 0, none⟩)) {cs : Array Value} {W : World} {R : Ending → World → Prop} (h : hp W x = some (.cells cs 30 (0, 0))) (hs : cs.size = 16) {e : Int} (h' : hp W y = some (.cells #[.int .i64 e] 26 (0, 0)))
    (hR : ∀ w', Below W.heap.size W w' → R (.returned (.tuple #[.agg cs, .int .i64 e])) w') :
    Leaves Try.prog Try.f14 tmps R [{ target := .fn (.func 39) #[.pointer (some ⟨x, 0, none⟩), .pointer (some ⟨y, 0, none⟩)], args := #[] }] .returning W := by
  refine leaves_cons (f := 39) (args := #[.pointer (some ⟨x, 0, none⟩), .pointer (some ⟨y, 0, none⟩)]) (by simp) (by simp [go_sem]) ?_
  refine (catch_idle W x y).mono ?_
  rintro e' u' w'' ⟨rfl, rfl, hb⟩
  exact ⟨_, res14 hx hy (hp_below hb h) hs (hp_below hb h'), hR w'' hb⟩
theorem leaves_pan {tmps : Array Value} {x y : Nat} (hx : tmps.getD 2 undef = .pointer (some ⟨x, 0, none⟩)) (hy : tmps.getD 3 undef = .pointer (some ⟨y, 0, none⟩)) {col : Nat → Nat} {cs : Array Value} {W : World} {R : Ending → World → Prop} (h : Blk col 2 W x cs 30) (hs : cs.size = 16) {er : Int} (h' : Blk col 6 W y #[.int .i64 0] 26)
    (hR : ∀ c' w', Mv [2, 6] col W c' w' → R (.returned (.tuple #[.agg Z30, .int .i64 er])) w') :
    Leaves Try.prog Try.f14 tmps R [{ target := .fn (.func 39) #[.pointer (some ⟨x, 0, none⟩), .pointer (some ⟨y, 0, none⟩)], args := #[] }] (.panicking [{ v := .iface 79 (.agg #[.int .i64 er]), recovered := false }]) W := by
  refine leaves_cons (f := 39) (args := #[.pointer (some ⟨x, 0, none⟩), .pointer (some ⟨y, 0, none⟩)]) (by simp) (by simp [go_sem]) ?_
  refine (catch_pan col W x y cs hs er h h').mono ?_
  rintro e' u' w'' ⟨rfl, rfl, c', h1, h2, hm⟩
  exact ⟨_, res14 hx hy h1.hp rfl h2.hp, hR c' w'' hm⟩
theorem i64_0 : I64 0 := ⟨by decide, by decide⟩
theorem dec_fin {s : List UInt8} {w w0 W : World} {c0 c : Nat → Nat} (hb0 : Below w.heap.size w w0) (h0 : ∀ k, k < w.heap.size → c0 k = 0) (hm : Mv [1, 2, 3, 4, 5, 6] c0 w0 c W) {er : Int} (hd : decode s = .error er) : ∀ w', Below W.heap.size W w' → DecP s w (.returned (.tuple #[.agg Z30, .int .i64 er])) w' := fun w' hb =>
  ⟨below_mv hb0 (hm.after_below hb) (fun k hk => by rw [h0 k hk]; decide), .inl ⟨er, hd, rfl⟩⟩
theorem c_decode (s : ByteArray) (hs : s.size ≤ maxLen) (w : World) : Calls Try.prog 14 #[.string s] w (DecP s.data.toList w) := by
  have hmf : ∀ (fn : Fn) (first cap : Array Value) (w : World), (Instr.makeFunc fn first cap).run Try.prog w = .ok (.func fn first cap) w := fun _ _ _ _ => rfl
  go_enter_defers Try.func14, Try.ntmps14
  go_wp2_with fail
  have hq2 : hp ((w.alloc (.cells Z30 30)).alloc (.cells #[.int .i64 0] 26)) w.heap.size = some (.cells Z30 30 (0, 0)) := hp_alloc_old (hp_alloc_new _ _) _
  have hq3 : hp ((w.alloc (.cells Z30 30)).alloc (.cells #[.int .i64 0] 26)) (w.heap.size + 1) = some (.cells #[.int .i64 0] 26 (0, 0)) := by rw [hpA, if_pos (by simp)]
  have hbq : Below w.heap.size w ((w.alloc (.cells Z30 30)).alloc (.cells #[.int .i64 0] 26)) := below_alloc (below_alloc (Below.refl _ _) _) _
  have hsz : ((w.alloc (.cells Z30 30)).alloc (.cells #[.int .i64 0] 26)).heap.size = w.heap.size + 2 := by simp
  obtain ⟨c0, hc0⟩ : ∃ c0 : Nat → Nat, c0 = fun k => if k < w.heap.size then 0 else if k = w.heap.size then 2 else 6 := ⟨_, rfl⟩
  have e0 : ∀ k, k < w.heap.size → c0 k = 0 := fun k hk => by rw [hc0]; show (if k < w.heap.size then 0 else _) = 0; rw [if_pos hk]
  have e2 : c0 w.heap.size = 2 := by rw [hc0]; simp
  have e3 : c0 (w.heap.size + 1) = 6 := by rw [hc0]; simp
  clear hc0
  rw [show (#[.int .i64 0, .int .i64 0, .int .i64 0, .int .i64 0, .int .i64 0, .int .i64 0, .string ⟨#[]⟩, .int .i64 0, .int .i64 0, .bool false, .string ⟨#[]⟩, .bool false, .int .i64 0, .int .i64 0, .slice none 0 0, .slice none 0 0] : Array Value) = Z30 from rfl]
  have HB0 := Lib.hid hbq
  have HE0 := Lib.hid e0
  have HX : Hid (Blk c0 2 ((w.alloc (.cells Z30 30)).alloc (.cells #[.int .i64 0] 26)) w.heap.size Z30 30) := Lib.hid ⟨hq2, e2⟩
  have HY : Hid (Blk c0 6 ((w.alloc (.cells Z30 30)).alloc (.cells #[.int .i64 0] 26)) (w.heap.size + 1) #[.int .i64 0] 26) := Lib.hid ⟨hq3, e3⟩
  clear hq2 hq3 hbq e0 e2 e3
  generalize (w.alloc (.cells Z30 30)).alloc (.cells #[.int .i64 0] 26) = w0 at *
  refine (rd_new c0 1 w0 s hs).mono ?_
  rintro e w1 ⟨br, rfl, hR1, hC1⟩
  have hX1 := HX.out.kept hC1.mv (by decide)
  have hY1 := HY.out.kept hC1.mv (by decide)
  have hbA : Below w1.heap.size w1 (w1.alloc (.cells #[.pointer (some ⟨br, 0, none⟩)] 84)) := below_alloc (Below.refl _ _) _
  have HX2 := Lib.hid (hX1.kept (Mv.new (S := []) hbA 6) (by simp))
  have HY2 := Lib.hid (hY1.kept (Mv.new (S := []) hbA 6) (by simp))
  have HR2 := Lib.hid (hR1.kept (Mv.new (S := []) hbA 6) (by simp))
  have HM2 := Lib.hid (Mv.trans (Mv.sub (T := [1, 2, 3, 4, 5]) hC1.mv (by simp)) (Mv.new hbA 6))
  have HI2 : Hid (Blk (paint (paint c0 w0 1) w1 6) 6 (w1.alloc (.cells #[.pointer (some ⟨br, 0, none⟩)] 84)) w1.heap.size #[.pointer (some ⟨br, 0, none⟩)] 84) := Lib.hid ⟨hp_alloc_new _ _, paint_new (Nat.le_refl _)⟩
  clear hR1 hC1 hX1 hY1 hbA HX HY
  generalize paint (paint c0 w0 1) w1 6 = c2 at *
  generalize hbx : w.heap.size = bx at *
  have HBX := Lib.hid hbx; clear hbx
  generalize hbi : w1.heap.size = bi at *
  have hci := hp_cell HI2.out.hp 0
  simp only [List.getElem?_toArray, List.getElem?_cons_zero] at hci
  go_wp2_with fail
  have hM2 : MsgAt c2 (w1.alloc (.cells #[.pointer (some ⟨br, 0, none⟩)] 84)) bx Mg.zero := ⟨none, 0, none, 0, HX2.out, Row.nil', Row.nil'⟩
  have HC19 := Lib.hid (f_kind (inL br s) c2 _ 0 bx Mg.zero HR2.out hM2 ⟨by decide, by decide⟩ trivial)
  have HY2' := HY2.out
  clear hM2
  generalize w1.alloc (.cells #[.pointer (some ⟨br, 0, none⟩)] 84) = w2 at *
  refine HC19.out.mono ?_
  rintro e w3 ⟨c3, hm3, ⟨a, hr, rfl, hS3, hM3⟩ | ⟨er, hr, h0, rfl, cs', hcs, hsz'⟩⟩
  rotate_left
  · have hb : Below w.heap.size w w3 := below_mv (w := w) (W := w0) (by rw [HBX.out]; exact HB0.out) (HM2.out.trans (Mv.sub (T := [1, 2, 3, 4, 5]) hm3 (by simp))) (fun k hk => by rw [HE0.out k (by have := HBX.out; omega)]; decide)
    refine leaves_pan rfl rfl hcs hsz' (HY2.out.kept hm3 (by decide)) ?_
    intro c' w' hm
    refine ⟨below_mv (w := w) (W := w0) (by rw [HBX.out]; exact HB0.out) (Mv.trans (Mv.sub (T := [1, 2, 3, 4, 5, 6]) (HM2.out.trans (Mv.sub (T := [1, 2, 3, 4, 5]) hm3 (by simp))) (by simp)) (Mv.sub (T := [1, 2, 3, 4, 5, 6]) hm (by simp))) (fun k hk => by rw [HE0.out k (by have := HBX.out; omega)]; decide), .inl ⟨er, ?_, rfl⟩⟩
    have hr' : ((inO s.data.toList).num 0 0).1 = .error er := hr
    unfold decode
    rw [pair_er hr']
  have hr' : ((inO s.data.toList).num 0 0).1 = .ok a := hr
  have HD : Hid (decode s.data.toList = if 1 ≤ a ∧ a ≤ 11 then
      (match fieldsT (inO s.data.toList) { Mg.zero with kind := a } ((inO s.data.toList).num 0 0).2 with
      | (.error e, _) => .error (e : Int)
      | (.ok m, p') => if rEnd s.data.toList ⟨p', 0⟩ ≠ 0 then .error (rEnd s.data.toList ⟨p', 0⟩ : Int) else if chkM m ≠ 0 then .error (chkM m) else .ok m)
    else .error 13) := Lib.hid (by
    unfold decode
    rw [pair_ok hr'])
  have HM3 := Lib.hid (HM2.out.trans (Mv.sub (T := [1, 2, 3, 4, 5]) hm3 (by simp)))
  have HY3 := Lib.hid (HY2.out.kept hm3 (by decide))
  have HI3 := Lib.hid (HI2.out.kept hm3 (by decide))
  have HS3 : Hid (Rds 126 c3 1 w3 br s ⟨((inO s.data.toList).num 0 0).2, 0⟩) := Lib.hid hS3
  have HMg3 : Hid (MsgAt c3 w3 bx { Mg.zero with kind := a }) := Lib.hid hM3
  have hk0 : w3.cell? ⟨bx, 0, none⟩ = some (.int .i64 a) := hM3.c0
  have HCK := Lib.hid (c_known a w3)
  clear hr hr' hm3 hS3 hM3 HM2 HY2 HI2 HX2 HR2 HY2' hci HC19
  generalize ((inO s.data.toList).num 0 0).2 = p at *
  by_cases hk : 1 ≤ a ∧ a ≤ 11
  rotate_left
  · have hd : decide (1 ≤ a ∧ a ≤ 11) = false := by rw [decide_eq_false_iff_not]; exact hk
    rw [hd] at HCK
    have HK := Lib.hid hk; clear hk hd
    go_wp2_with fail
    refine HCK.out.mono ?_; rintro e w4 ⟨rfl, rfl⟩
    dsimp only
    obtain ⟨wpz, wcz, kpz, kcz, hbz, _⟩ := HMg3.out
    have HX : Hid (Blk c3 2 w3 bx (Mg.cs { Mg.zero with kind := a } wpz wcz kpz kcz) 30 ∧ (Mg.cs { Mg.zero with kind := a } wpz wcz kpz kcz).size = 16) := Lib.hid ⟨hbz, rfl⟩
    have HY := HY3
    clear hbz
    iterate 13 go_step
    refine st_op rfl (.tmp 2) (.tmp 19) rfl bx Z30 rfl rfl _ HX.out.1.hp HX.out.2 rfl (by simp [Z30, Value.oneCell']) ?_
    simp only [Act.put, List.setIfInBounds_toArray, List.set_cons_zero, List.set_cons_succ]
    have cy : (w3.setRow bx Z30).cell? ⟨bx + 1, 0, none⟩ = some (.int .i64 0) := hp_cell (hp_row_ne HY.out.hp (by omega)) 0
    have fy : (w3.setRow bx Z30).frozen? ⟨bx + 1, 0, none⟩ = false := hp_free (hp_row_ne HY.out.hp (by omega)) 0
    have hqx : hp ((w3.setRow bx Z30).setCell ⟨bx + 1, 0, none⟩ (.int .i64 (13))) bx = some (.cells Z30 30 (0, 0)) := hp_set_ne (hp_row HX.out.1.hp) (p := ⟨bx + 1, 0, none⟩) (by show bx ≠ bx + 1; omega) _
    have hqy : hp ((w3.setRow bx Z30).setCell ⟨bx + 1, 0, none⟩ (.int .i64 (13))) (bx + 1) = some (.cells #[.int .i64 (13)] 26 (0, 0)) := hp_set (hp_row_ne HY.out.hp (by omega)) _
    have hmm : Mv [1, 2, 3, 4, 5, 6] c0 w0 c3 ((w3.setRow bx Z30).setCell ⟨bx + 1, 0, none⟩ (.int .i64 (13))) := mv_set (mv_row (Mv.sub (T := [1, 2, 3, 4, 5, 6]) HM3.out (by simp)) (by rw [HX.out.1.col]; simp) _) (p := ⟨bx + 1, 0, none⟩) (by show c3 (bx + 1) ∈ _; rw [HY.out.col]; simp) _
    have HQQ := Lib.hid (And.intro hqx (And.intro hqy hmm)); clear hqx hqy hmm
    go_wp2
    refine leaves_ret rfl rfl HQQ.out.1 rfl HQQ.out.2.1 ?_
    exact dec_fin (w0 := w0) (c0 := c0) (by rw [HBX.out]; exact HB0.out) (fun k hk => HE0.out k (by have := HBX.out; omega)) HQQ.out.2.2 (by rw [HD.out, if_neg HK.out])
  have hd : decide (1 ≤ a ∧ a ≤ 11) = true := by rw [decide_eq_true_eq]; exact hk
  rw [hd] at HCK
  have hD := HD.out
  rw [if_pos hk] at hD
  have HD1 := Lib.hid hD; clear hD HD
  have hIn : Mg.In { Mg.zero with kind := a } := ⟨⟨by show _ ≤ a; omega, by show a ≤ _; omega⟩, i64_0, i64_0, i64_0, i64_0, i64_0, i64_0, i64_0, i64_0, i64_0⟩
  have HC20 := Lib.hid (c_fields (inL br s) c3 w3 p bx _ HS3.out HMg3.out hIn ⟨Nat.zero_le _, Nat.zero_le _⟩ trivial)
  clear hd hIn hk
  have hci : w3.cell? ⟨bi, 0, none⟩ = some (.pointer (some ⟨br, 0, none⟩)) := hp_cell HI3.out.hp 0
  go_wp2_with fail
  refine HCK.out.mono ?_; rintro e w4 ⟨rfl, rfl⟩
  go_wp2_with fail
  refine HC20.out.mono ?_
  rintro e w4 ⟨c4, hm4, ⟨m, hr, rfl, hS4, hM4⟩ | ⟨er, hr, h0, rfl, cs', hcs, hsz'⟩⟩
  rotate_left
  · have hb : Below w.heap.size w w4 := below_mv (w := w) (W := w0) (by rw [HBX.out]; exact HB0.out) (HM3.out.trans hm4) (fun k hk => by rw [HE0.out k (by have := HBX.out; omega)]; decide)
    refine leaves_pan rfl rfl hcs hsz' (HY3.out.kept hm4 (by decide)) ?_
    intro c' w' hm
    refine ⟨below_mv (w := w) (W := w0) (by rw [HBX.out]; exact HB0.out) (Mv.trans (Mv.sub (T := [1, 2, 3, 4, 5, 6]) (HM3.out.trans hm4) (by simp)) (Mv.sub (T := [1, 2, 3, 4, 5, 6]) hm (by simp))) (fun k hk => by rw [HE0.out k (by have := HBX.out; omega)]; decide), .inl ⟨er, ?_, rfl⟩⟩
    have hr' : (fieldsT (inO s.data.toList) { Mg.zero with kind := a } p).1 = .error er := hr
    rw [HD1.out, pair_er hr']
  have hr' : (fieldsT (inO s.data.toList) { Mg.zero with kind := a } p).1 = .ok m := hr
  have HS4 : Hid (Rds 126 c4 1 w4 br s ⟨(fieldsT (inO s.data.toList) { Mg.zero with kind := a } p).2, 0⟩) := Lib.hid hS4
  have hD := HD1.out
  rw [pair_ok hr'] at hD
  generalize (fieldsT (inO s.data.toList) { Mg.zero with kind := a } p).2 = p' at *
  have HD2 : Hid (decode s.data.toList = if rEnd s.data.toList ⟨p', 0⟩ ≠ 0 then .error (rEnd s.data.toList ⟨p', 0⟩ : Int) else if chkM m ≠ 0 then .error (chkM m) else .ok m) := Lib.hid hD
  have HM4 := Lib.hid (HM3.out.trans hm4)
  have HY := Lib.hid (HY3.out.kept hm4 (by decide))
  obtain ⟨wp, wc, kp, kc, hbX, hrW, hrK⟩ := hM4
  have HX : Hid (Blk c4 2 w4 bx (m.cs wp wc kp kc) 30 ∧ (m.cs wp wc kp kc).size = 16) := Lib.hid ⟨hbX, rfl⟩
  have HRR := Lib.hid (And.intro hrW hrK)
  have hci4 : w4.cell? ⟨bi, 0, none⟩ = some (.pointer (some ⟨br, 0, none⟩)) := hp_cell (HI3.out.kept hm4 (by decide)).hp 0
  have HEN := Lib.hid (rd_end c4 1 w4 br s ⟨p', 0⟩ HS4.out)
  clear hr hr' hD hm4 hbX hrW hrK hS4 HM3 HY3 HI3 HS3 HMg3 HC20 HD1 hci HCK hk0
  generalize rEnd s.data.toList ⟨p', 0⟩ = re at *
  by_cases hre : re = 0
  rotate_left
  · have hn : ((re : Int) != 0) = true := by simp; omega
    have HRE := Lib.hid hre; clear hre
    go_wp2_with fail
    refine HEN.out.mono ?_; rintro e w5 ⟨rfl, nq, rfl⟩
    dsimp only
    have hbd : Below w4.heap.size w4 (w4.drewN nq) := below_drewN (Below.refl _ _) nq
    replace HX : Hid (Blk c4 2 (w4.drewN nq) bx (m.cs wp wc kp kc) 30 ∧ (m.cs wp wc kp kc).size = 16) := Lib.hid ⟨HX.out.1.kept (Mv.of_below (S := []) hbd) (by simp), rfl⟩
    replace HY := Lib.hid (HY.out.kept (Mv.of_below (S := []) hbd) (by simp))
    replace HM4 := Lib.hid (HM4.out.after_below hbd)
    clear hbd
    generalize w4.drewN nq = w5 at *
    iterate 27 go_step
    refine st_op rfl (.tmp 2) (.tmp 28) rfl bx Z30 rfl rfl _ HX.out.1.hp HX.out.2 rfl (by simp [Z30, Value.oneCell']) ?_
    simp only [Act.put, List.setIfInBounds_toArray, List.set_cons_zero, List.set_cons_succ]
    have cy : (w5.setRow bx Z30).cell? ⟨bx + 1, 0, none⟩ = some (.int .i64 0) := hp_cell (hp_row_ne HY.out.hp (by omega)) 0
    have fy : (w5.setRow bx Z30).frozen? ⟨bx + 1, 0, none⟩ = false := hp_free (hp_row_ne HY.out.hp (by omega)) 0
    have hqx : hp ((w5.setRow bx Z30).setCell ⟨bx + 1, 0, none⟩ (.int .i64 (re : Int))) bx = some (.cells Z30 30 (0, 0)) := hp_set_ne (hp_row HX.out.1.hp) (p := ⟨bx + 1, 0, none⟩) (by show bx ≠ bx + 1; omega) _
    have hqy : hp ((w5.setRow bx Z30).setCell ⟨bx + 1, 0, none⟩ (.int .i64 (re : Int))) (bx + 1) = some (.cells #[.int .i64 (re : Int)] 26 (0, 0)) := hp_set (hp_row_ne HY.out.hp (by omega)) _
    have hmm : Mv [1, 2, 3, 4, 5, 6] c0 w0 c4 ((w5.setRow bx Z30).setCell ⟨bx + 1, 0, none⟩ (.int .i64 (re : Int))) := mv_set (mv_row (Mv.sub (T := [1, 2, 3, 4, 5, 6]) HM4.out (by simp)) (by rw [HX.out.1.col]; simp) _) (p := ⟨bx + 1, 0, none⟩) (by show c4 (bx + 1) ∈ _; rw [HY.out.col]; simp) _
    have HQQ := Lib.hid (And.intro hqx (And.intro hqy hmm)); clear hqx hqy hmm
    go_wp2
    refine leaves_ret rfl rfl HQQ.out.1 rfl HQQ.out.2.1 ?_
    exact dec_fin (w0 := w0) (c0 := c0) (by rw [HBX.out]; exact HB0.out) (fun k hk => HE0.out k (by have := HBX.out; omega)) HQQ.out.2.2 (by rw [HD2.out, if_pos HRE.out])
  subst hre
  have HD3 : Hid (decode s.data.toList = if chkM m ≠ 0 then .error (chkM m) else .ok m) := Lib.hid (by rw [HD2.out, if_neg (by simp)])
  clear HD2
  go_wp2_with fail
  refine HEN.out.mono ?_; rintro e w5 ⟨rfl, nq, rfl⟩
  dsimp only
  have hbd : Below w4.heap.size w4 (w4.drewN nq) := below_drewN (Below.refl _ _) nq
  replace HX : Hid (Blk c4 2 (w4.drewN nq) bx (m.cs wp wc kp kc) 30 ∧ (m.cs wp wc kp kc).size = 16) := Lib.hid ⟨HX.out.1.kept (Mv.of_below (S := []) hbd) (by simp), rfl⟩
  replace HY := Lib.hid (HY.out.kept (Mv.of_below (S := []) hbd) (by simp))
  replace HM4 := Lib.hid (HM4.out.after_below hbd)
  replace HRR := Lib.hid (And.intro (HRR.out.1.kept (Mv.of_below (S := []) hbd) (by simp)) (HRR.out.2.kept (Mv.of_below (S := []) hbd) (by simp)))
  clear hbd
  generalize w4.drewN nq = w5 at *
  replace HRR : Hid (Row c4 3 w5 49 3 (.slice wp m.W.length wc) m.W.length (m.W.flatMap encW) ∧ Row c4 5 w5 9 1 (.slice kp m.K.length kc) m.K.length (m.K.flatMap encS)) := HRR
  iterate 25 go_step
  refine ld_op rfl (.tmp 2) rfl bx rfl _ HX.out.1.hp HX.out.2 ?_
  simp only [Act.put, List.setIfInBounds_toArray, List.set_cons_zero, List.set_cons_succ]
  have HC12 := Lib.hid (c_check m wp wc kp kc w5 (row_lsW HRR.out.1) (Nat.le_trans (row_lsW HRR.out.1).cap.1 (row_lsW HRR.out.1).cap.2) (row_lsS HRR.out.2) (Nat.le_trans (row_lsS HRR.out.2).cap.1 (row_lsS HRR.out.2).cap.2))
  generalize hck : chkM m = ck at *
  have HCK := Lib.hid hck; clear hck
  by_cases hc : ck = 0
  rotate_left
  · have hn : (ck != 0) = true := by simpa using hc
    have HRE := Lib.hid hc; clear hc
    go_wp2_with fail
    refine HC12.out.mono ?_; rintro e w6 ⟨rfl, hbd⟩
    replace HX : Hid (Blk c4 2 w6 bx (m.cs wp wc kp kc) 30 ∧ (m.cs wp wc kp kc).size = 16) := Lib.hid ⟨HX.out.1.kept (Mv.of_below (S := []) hbd) (by simp), rfl⟩
    replace HY := Lib.hid (HY.out.kept (Mv.of_below (S := []) hbd) (by simp))
    replace HM4 := Lib.hid (HM4.out.after_below hbd)
    clear hbd
    dsimp only
    iterate 27 go_step
    refine st_op rfl (.tmp 2) (.tmp 34) rfl bx Z30 rfl rfl _ HX.out.1.hp HX.out.2 rfl (by simp [Z30, Value.oneCell']) ?_
    simp only [Act.put, List.setIfInBounds_toArray, List.set_cons_zero, List.set_cons_succ]
    have cy : (w6.setRow bx Z30).cell? ⟨bx + 1, 0, none⟩ = some (.int .i64 0) := hp_cell (hp_row_ne HY.out.hp (by omega)) 0
    have fy : (w6.setRow bx Z30).frozen? ⟨bx + 1, 0, none⟩ = false := hp_free (hp_row_ne HY.out.hp (by omega)) 0
    have hqx : hp ((w6.setRow bx Z30).setCell ⟨bx + 1, 0, none⟩ (.int .i64 (ck))) bx = some (.cells Z30 30 (0, 0)) := hp_set_ne (hp_row HX.out.1.hp) (p := ⟨bx + 1, 0, none⟩) (by show bx ≠ bx + 1; omega) _
    have hqy : hp ((w6.setRow bx Z30).setCell ⟨bx + 1, 0, none⟩ (.int .i64 (ck))) (bx + 1) = some (.cells #[.int .i64 (ck)] 26 (0, 0)) := hp_set (hp_row_ne HY.out.hp (by omega)) _
    have hmm : Mv [1, 2, 3, 4, 5, 6] c0 w0 c4 ((w6.setRow bx Z30).setCell ⟨bx + 1, 0, none⟩ (.int .i64 (ck))) := mv_set (mv_row (Mv.sub (T := [1, 2, 3, 4, 5, 6]) HM4.out (by simp)) (by rw [HX.out.1.col]; simp) _) (p := ⟨bx + 1, 0, none⟩) (by show c4 (bx + 1) ∈ _; rw [HY.out.col]; simp) _
    have HQQ := Lib.hid (And.intro hqx (And.intro hqy hmm)); clear hqx hqy hmm
    go_wp2
    refine leaves_ret rfl rfl HQQ.out.1 rfl HQQ.out.2.1 ?_
    exact dec_fin (w0 := w0) (c0 := c0) (by rw [HBX.out]; exact HB0.out) (fun k hk => HE0.out k (by have := HBX.out; omega)) HQQ.out.2.2 (by rw [HD3.out, if_pos HRE.out])
  subst hc
  go_wp2_with fail
  refine HC12.out.mono ?_; rintro e w6 ⟨rfl, hbd⟩
  replace HX : Hid (Blk c4 2 w6 bx (m.cs wp wc kp kc) 30 ∧ (m.cs wp wc kp kc).size = 16) := Lib.hid ⟨HX.out.1.kept (Mv.of_below (S := []) hbd) (by simp), rfl⟩
  replace HY := Lib.hid (HY.out.kept (Mv.of_below (S := []) hbd) (by simp))
  replace HM4 := Lib.hid (HM4.out.after_below hbd)
  replace HRR := Lib.hid (And.intro (HRR.out.1.kept (Mv.of_below (S := []) hbd) (by simp)) (HRR.out.2.kept (Mv.of_below (S := []) hbd) (by simp)))
  clear hbd
  dsimp only
  iterate 24 go_step
  refine ld_op rfl (.tmp 2) rfl bx rfl _ HX.out.1.hp HX.out.2 ?_
  simp only [Act.put, List.setIfInBounds_toArray, List.set_cons_zero, List.set_cons_succ]
  refine st_op rfl (.tmp 2) (.tmp 36) rfl bx _ rfl rfl _ HX.out.1.hp HX.out.2 HX.out.2 (by simp [Mg.cs, Value.oneCell']) ?_
  simp only [Act.put, List.setIfInBounds_toArray, List.set_cons_zero, List.set_cons_succ]
  have hX6 := hp_row (cs' := m.cs wp wc kp kc) HX.out.1.hp
  have hY6 := hp_row_ne (cs' := m.cs wp wc kp kc) HY.out.hp (g := bx) (by omega)
  have hm6 : Mv [2] c4 w6 c4 (w6.setRow bx (m.cs wp wc kp kc)) := mv_row Mv.refl (by rw [HX.out.1.col]; simp) _
  have cy := hp_cell hY6 0
  have fy := hp_free hY6 0
  have HQQ := Lib.hid (And.intro hX6 (And.intro hY6 hm6))
  clear hX6 hY6 hm6
  go_wp2
  refine leaves_ret rfl rfl (hp_set_ne HQQ.out.1 (p := ⟨bx + 1, 0, none⟩) (by show bx ≠ bx + 1; omega) _) HX.out.2 (hp_set HQQ.out.2.1 _) ?_
  intro w' hb
  have hm7 : Mv [2, 6] c4 w6 c4 ((w6.setRow bx (m.cs wp wc kp kc)).setCell ⟨bx + 1, 0, none⟩ (.int .i64 0)) := mv_set (HQQ.out.2.2.sub (by simp)) (p := ⟨bx + 1, 0, none⟩) (by show c4 (bx + 1) ∈ _; rw [HY.out.col]; simp) _
  have hm8 := hm7.after_below hb
  have hall : Mv [1, 2, 3, 4, 5, 6] c0 w0 c4 w' := Mv.trans (Mv.sub (T := [1, 2, 3, 4, 5, 6]) HM4.out (by simp)) (Mv.sub (T := [1, 2, 3, 4, 5, 6]) hm8 (by simp))
  have h00 : ∀ k, k < w.heap.size → c0 k = 0 := fun k hk => HE0.out k (by have := HBX.out; omega)
  have hbw : Below w.heap.size w w0 := by rw [HBX.out]; exact HB0.out
  exact ⟨below_mv hbw hall (fun k hk => by rw [h00 k hk]; decide), .inr ⟨m, c4, wp, wc, kp, kc, by rw [HD3.out, if_neg (by simp)], rfl, fun k hk => by rw [hall.col k (Nat.lt_of_lt_of_le hk hbw.size)]; exact h00 k hk, HRR.out.1.kept hm8 (by decide), HRR.out.2.kept hm8 (by decide)⟩⟩

end Go.Proofs.Ytiklpifaaogcpaa
