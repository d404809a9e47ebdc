/- The reference's client, kind 1. -/
import Derived.Test.YtiklpifaaogcpaaKru
import Derived.Test.YtiklpifaaogcpaaFr
import Derived.WalkKit
import Derived.WalkLawsBesides
import Derived.WalkSpells
import Derived.Below
import Derived.Deep.RegionHeld3
import Derived.Deep.QuietTactic
import Derived.BigQuiet
import Derived.Deep.DeepCutAuto
import Derived.Deep.DeepMust
import Derived.KernelRfl
import Derived.Lib.Hide
import Derived.Outline
import Derived.RegionTactic
import Derived.StillTailTactics
import Derived.Laws.IdiomStrings
import Derived.Handy
namespace Go.Proofs.Ytiklpifaaogcpaa
open Go.RowKit Go.Cl Go.Wr Go.Kc
set_option maxRecDepth 100000
set_option linter.unusedVariables false
set_option linter.unusedSimpArgs false


def RX (col0 : Nat → Nat) (w0 : World) (b x : Nat) (s : ByteArray) (t : St) (m : Mg) (wp : Option Addr) (wc : Nat) (kp : Option Addr) (kc : Nat) (w : World) : Prop := ∃ col, Mv [1, 2, 3, 5] col0 w0 col w ∧ Rds 88 col 1 w b s t ∧ Blk col 2 w x (m.cs wp wc kp kc) 30 ∧ Row col 3 w 49 3 (.slice wp m.W.length wc) m.W.length (m.W.flatMap encW) ∧ Row col 5 w 9 1 (.slice kp m.K.length kc) m.K.length (m.K.flatMap encS)
theorem rCount_le (s : List UInt8) (t : St) : 0 ≤ (rCount s t).1 ∧ (rCount s t).1 ≤ 8 := by
  unfold rCount bnd
  dsimp only
  split
  · split
    · exact ⟨Int.le_refl _, by show (0 : Int) ≤ 8; decide⟩
    · dsimp only; omega
  · exact ⟨Int.le_refl _, by show (0 : Int) ≤ 8; decide⟩
theorem encW_one (e : Wt) : ∀ u ∈ encW e, u.oneCell' = true := encW_ok.2 e
theorem encS_one (e : ByteArray) : ∀ u ∈ encS e, u.oneCell' = true := encS_ok.2 e
variable {col0 : Nat → Nat} {w0 : World} {b x : Nat} {s : ByteArray} {t : St} {m : Mg} {wp : Option Addr} {wc : Nat} {kp : Option Addr} {kc : Nat} {w : World}
theorem RS.rx (h : RS col0 w0 b x s t m w) : ∃ wp wc kp kc, RX col0 w0 b x s t m wp wc kp kc w := by
  obtain ⟨col, h1, h2, ⟨wp, wc, kp, kc, h3⟩⟩ := h
  exact ⟨wp, wc, kp, kc, col, h1, h2, h3⟩
theorem RX.cells (h : RX col0 w0 b x s t m wp wc kp kc w) : (∀ i, w.cell? ⟨x, i, none⟩ = (#[.int .i64 m.kind, .int .i64 m.node, .int .i64 m.inc, .int .i64 m.ses, .int .i64 m.tx, .int .i64 m.seq, .string m.key, .int .i64 m.lo, .int .i64 m.hi, .bool m.has, .string m.data, .bool m.hit, .int .i64 m.err, .int .i64 m.n, .slice wp m.W.length wc, .slice kp m.K.length kc] : Array Value)[i]?) ∧ (∀ i, w.frozen? ⟨x, i, none⟩ = false) := by
  obtain ⟨col, h1, h2, hb, h3⟩ := h
  exact ⟨hp_cell hb.hp, hp_free hb.hp⟩
theorem RX.below (h : RX col0 w0 b x s t m wp wc kp kc w) {w' : World} (hb : Below w.heap.size w w') : RX col0 w0 b x s t m wp wc kp kc w' := by
  obtain ⟨col, h1, h2, h3, h4, h5⟩ := h
  have hm : Mv [] col w col w' := Mv.of_below hb
  exact ⟨col, h1.trans (Mv.of_below hb), h2.below hb, h3.kept hm (by simp), h4.kept hm (by simp), h5.kept hm (by simp)⟩
theorem RX.step {α : Type} {f : Nat} {args : Array Value} {v : α → Value} {r : α × St} (h : RX col0 w0 b x s t m wp wc kp kc w)
    (hc : ∀ col, Rds 88 col 1 w b s t → Calls Try.prog f args w fun e w' => e = .returned (v r.1) ∧ Rds 88 (paint col w 1) 1 w' b s r.2 ∧ Ch col 1 w w') :
    Calls Try.prog f args w fun e w' => e = .returned (v r.1) ∧ RX col0 w0 b x s r.2 m wp wc kp kc w' := by
  obtain ⟨col, h1, h2, h3, h4, h5⟩ := h
  refine (hc col h2).mono ?_
  rintro e w' ⟨he, hr, hC⟩
  exact ⟨he, _, h1.trans (hC.mv' (by simp)), hr, h3.kept hC.mv (by simp), h4.kept hC.mv (by simp), h5.kept hC.mv (by simp)⟩
theorem RX.val (h : RX col0 w0 b x s t m wp wc kp kc w) {r : (Bool × ByteArray) × St} (hr : rVal s.data.toList t = r) : Calls Try.prog 45 #[.pointer (some ⟨b, 0, none⟩)] w fun e w' => e = .returned (.agg #[.bool r.1.1, .string r.1.2]) ∧ RX col0 w0 b x s r.2 m wp wc kp kc w' := by
  subst hr
  exact h.step (v := fun n : Bool × ByteArray => Value.agg #[.bool n.1, .string n.2]) (fun col hr => r_val col 1 w b s t hr)
theorem RX.text (h : RX col0 w0 b x s t m wp wc kp kc w) (most : Int) {r : ByteArray × St} (hr : rTx s.data.toList most t = r) : Calls Try.prog 44 #[.pointer (some ⟨b, 0, none⟩), .int .i64 most] w fun e w' => e = .returned (.string r.1) ∧ RX col0 w0 b x s r.2 m wp wc kp kc w' := by
  subst hr
  exact h.step (v := fun n : ByteArray => Value.string n) (r := rTx s.data.toList most t) (fun col hr => rr_text col 1 w b s t hr most)

theorem rx_growW {col : Nat → Nat} (h1 : Mv [1, 2, 3, 5] col0 w0 col w) (h2 : Rds 88 col 1 w b s t) (hb : Blk col 2 w x (m.cs wp wc kp kc) 30) (hk : Row col 5 w 9 1 (.slice kp m.K.length kc) m.K.length (m.K.flatMap encS)) {e : Wt} {p : Option Addr} {c' : Nat} {w' : World}
    (hr : Row (paint col w 3) 3 w' 49 3 (.slice p (m.W.length + 1) c') (m.W.length + 1) (m.W.flatMap encW ++ encW e)) (hC : Ch col 3 w w') :
    RS col0 w0 b x s t { m with W := m.W ++ [e] } (w'.setCell ⟨x, 14, none⟩ (.slice p (m.W.length + 1) c')) := by
  have hb' := hb.kept hC.mv (by simp)
  have h2' := h2.kept hC.mv (by simp)
  have hk' := hk.kept hC.mv (by simp)
  have hne : b ≠ x := by
    intro e
    have h3 := h2.blk.col
    have h4 := hb.col
    rw [e, h4] at h3
    omega
  have hl : (m.W ++ [e]).length = m.W.length + 1 := by simp
  have hf : (m.W ++ [e]).flatMap encW = m.W.flatMap encW ++ encW e := by simp
  have hcs : (m.cs wp wc kp kc).setIfInBounds 14 (.slice p (m.W.length + 1) c') = ({ m with W := m.W ++ [e] } : Mg).cs p c' kp kc := by
    unfold Mg.cs
    rw [hl]
    rfl
  refine ⟨_, mv_set (h1.trans (hC.mv' (by simp))) (p := ⟨x, 14, none⟩) (by show paint col w 3 x ∈ _; rw [hb'.col]; simp) _, h2'.other hne _, ⟨p, c', kp, kc, ⟨?_, hb'.col⟩, ?_, ?_⟩⟩
  · have := hp_set hb'.hp (i := 14) (.slice p (m.W.length + 1) c')
    rw [hcs] at this
    exact this
  · rw [hl, hf]
    exact hr.set (hr.ne hb'.hp (by decide)) _
  · exact hk'.set (hk'.ne hb'.hp (by decide)) _

theorem rx_growK {col : Nat → Nat} (h1 : Mv [1, 2, 3, 5] col0 w0 col w) (h2 : Rds 88 col 1 w b s t) (hb : Blk col 2 w x (m.cs wp wc kp kc) 30) (hk : Row col 3 w 49 3 (.slice wp m.W.length wc) m.W.length (m.W.flatMap encW)) {e : ByteArray} {p : Option Addr} {c' : Nat} {w' : World}
    (hr : Row (paint col w 5) 5 w' 9 1 (.slice p (m.K.length + 1) c') (m.K.length + 1) (m.K.flatMap encS ++ encS e)) (hC : Ch col 5 w w') :
    RS col0 w0 b x s t { m with K := m.K ++ [e] } (w'.setCell ⟨x, 15, none⟩ (.slice p (m.K.length + 1) c')) := by
  have hb' := hb.kept hC.mv (by simp)
  have h2' := h2.kept hC.mv (by simp)
  have hk' := hk.kept hC.mv (by simp)
  have hne : b ≠ x := by
    intro e
    have h3 := h2.blk.col
    have h4 := hb.col
    rw [e, h4] at h3
    omega
  have hl : (m.K ++ [e]).length = m.K.length + 1 := by simp
  have hf : (m.K ++ [e]).flatMap encS = m.K.flatMap encS ++ encS e := by simp
  have hcs : (m.cs wp wc kp kc).setIfInBounds 15 (.slice p (m.K.length + 1) c') = ({ m with K := m.K ++ [e] } : Mg).cs wp wc p c' := by
    unfold Mg.cs
    rw [hl]
    rfl
  refine ⟨_, mv_set (h1.trans (hC.mv' (by simp))) (p := ⟨x, 15, none⟩) (by show paint col w 5 x ∈ _; rw [hb'.col]; simp) _, h2'.other hne _, ⟨wp, wc, p, c', ⟨?_, hb'.col⟩, ?_, ?_⟩⟩
  · have := hp_set hb'.hp (i := 15) (.slice p (m.K.length + 1) c')
    rw [hcs] at this
    exact this
  · exact hk'.set (hk'.ne hb'.hp (by decide)) _
  · rw [hl, hf]
    exact hr.set (hr.ne hb'.hp (by decide)) _

theorem gives_append_col {P : Program} {col : Nat → Nat} {i : Nat} {w : World} {o : Oper} {a : Act} {R : Value → World → Prop} (s x : Operand) (t : TypeId)
    (ho : o.op = .call { callee := .builtin .append, args := #[s, x], argTypes := #[t, t] })
    (e : TypeId) (inf : TypeInfo) (z : Value) (size bytes : Nat) (ht : P.underlying t = some (.slice e)) (hi : P.info? e = some inf) (hz : inf.zero = some z)
    (hsize : inf.size = size) (hby : inf.bytes = bytes) (hzs : z.cells.size = size) (hsz : 0 < size)
    (v : Value) (n : Nat) (xs : List Value) (hs : a.eval s = v) (hr : Row col i w e size v n xs)
    (ad : Addr) (m c : Nat) (news : List Value) (hx : a.eval x = .slice (some ad) m c) (hl : news.length = m * size) (hnews : ∀ j u, news[j]? = some u → w.cell? (ad.add j) = some u) (h1 : ∀ u ∈ news, u.oneCell' = true)
    (h63 : n + m ≤ maxLen) (hbytes : (n + m) * bytes ≤ 140737488355328)
    (h : ∀ p c' w', Row (paint col w i) i w' e size (.slice p (n + m) c') (n + m) (xs ++ news) → Ch col i w w' → w.grownBy w' v.ownBlock → R (.slice p (n + m) c') w') : Ph.gives P o a w R := by
  obtain ⟨v', w', hrun, h2, h3⟩ := run_append_col (P := P) (col := col) (i := i) w t o.type e inf z size bytes ht hi hz hsize hby hzs hsz v n xs hr ad m c news hl hnews h1 h63 hbytes
  unfold Ph.gives execOp
  simp only [ho, resolve, invoke, builtin, Sem.run_bind, Sem.run_pure, Result.andThen_ok, List.map_toArray, List.map_cons, List.map_nil, hs, hx, hrun]
  obtain ⟨p, c', rfl⟩ := h2.form
  exact h p c' w' h2 (Ch.refl.grown h3 (fun k hk => paint_of (hr.col k hk))) h3

def CW_Inv (col0 : Nat → Nat) (w0 : World) (b x : Nat) (s : ByteArray) (M : Mg) (T : St) (N : Nat) (t5 t6 : Value) (wr : World) : Prop := ∃ j : Nat, t5 = .int .i64 j ∧ j ≤ N ∧ RS col0 w0 b x s (iter (rElem s.data.toList) j T).2 { M with W := (iter (rElem s.data.toList) j T).1 } wr
set_option maxHeartbeats 4000000 in
theorem r_client_1 (h : RS col0 w0 b x s t (mz 1) w) :
    Calls Try.prog 43 #[.pointer (some ⟨b, 0, none⟩), .pointer (some ⟨x, 0, none⟩)] w fun e w' => e = .returned (.tuple #[]) ∧ RS col0 w0 b x s (rFields s.data.toList (mz 1) t).2 (rFields s.data.toList (mz 1) t).1 w' := by
  obtain ⟨i0, hi0, hz0, hz1, hz2⟩ := info_parts Try.info49
  have HZ := Lib.hid (And.intro hi0 (And.intro hz0 (And.intro hz1 hz2)))
  clear hi0 hz0 hz1 hz2
  obtain ⟨wp, wc, kp, kc, hc, hf, -⟩ := h.cells
  dsimp only [mz, Mg.zero] at hc
  have H0 := Lib.hid h
  clear h
  rcases hq1 : rNum s.data.toList t with ⟨v1, t1⟩
  rcases hq2 : rNum s.data.toList t1 with ⟨v2, t2⟩
  rcases hq3 : rCount s.data.toList t2 with ⟨n, T⟩
  have HN : Hid (0 ≤ n ∧ n ≤ 8) := Lib.hid (by have := rCount_le s.data.toList t2; rwa [hq3] at this)
  have HEQ : Hid (rFields s.data.toList (mz 1) t = ({ mz 1 with ses := v1, seq := v2, W := (iter (rElem s.data.toList) n.toNat T).1 }, (iter (rElem s.data.toList) n.toNat T).2)) := Lib.hid (by rw [rf_1]; simp only [bnd, rt, rList, hq1, hq2, hq3])
  rw [HEQ.out]
  dsimp only
  clear HEQ
  obtain ⟨N, hN⟩ : ∃ N : Nat, n = (N : Int) := ⟨n.toNat, by have := HN.out; omega⟩
  subst hN
  have hN8 : N ≤ 8 := by have := HN.out; omega
  rw [show ((N : Int)).toNat = N by omega]
  have H1 := Lib.hid (by have := H0.out.take; rw [hq1] at this; exact this)
  have hq2' := Lib.hid hq2
  have hq3' := Lib.hid hq3
  clear hq1 hq2 hq3
  go_enter Try.func43, Try.ntmps43
  go_wp2_with fail
  clear hc hf
  refine H1.out.mono ?_; rintro e w1 ⟨rfl, g1⟩
  obtain ⟨wp, wc, kp, kc, hc, hf, -⟩ := g1.cells
  dsimp only [mz, Mg.zero] at hc
  have h1 := Lib.hid (g1.put_ses v1)
  clear H1 g1
  go_wp2_with fail
  clear hc hf
  have H2 := h1.out.take
  rw [hq2'.out] at H2
  refine H2.mono ?_; rintro e w2 ⟨rfl, g2⟩
  obtain ⟨wp, wc, kp, kc, hc, hf, -⟩ := g2.cells
  dsimp only [mz, Mg.zero] at hc
  have h2 := Lib.hid (g2.put_seq v2)
  clear H2 g2
  go_wp2_with fail
  clear hc hf
  have H3 := h2.out.count
  rw [hq3'.out] at H3
  refine H3.mono ?_; rintro e w3 ⟨rfl, g3⟩
  clear H3 h1 h2 hq2' hq3'
  go_wp2
  go_loopw [5, 6] (CW_Inv col0 w0 b x s { mz 1 with ses := v1, seq := v2 } T N) (fun t _ _ => (N - (intOf t).toNat))
  case atStart => exact ⟨0, rfl, Nat.zero_le _, g3⟩
  case round =>
    obtain ⟨j, rfl, hj, hR⟩ := hrel
    by_cases hlt : j < N
    · rcases hI : iter (rElem s.data.toList) j T with ⟨L, tj⟩
      have hLl : L.length = j := by have := iter_len (rElem s.data.toList) j T; rw [hI] at this; exact this
      have HLl := Lib.hid hLl
      clear hLl
      rw [hI] at hR
      dsimp only at hR
      rcases hq1 : rTx s.data.toList 32 tj with ⟨k, t1⟩
      rcases hq2 : rVal s.data.toList t1 with ⟨⟨vh, vd⟩, t2⟩
      have HNX : Hid (iter (rElem s.data.toList) (j + 1) T = (L ++ [⟨k, vh, vd⟩], t2)) := Lib.hid (by show ((iter (rElem s.data.toList) j T).1 ++ [(rElem s.data.toList (iter (rElem s.data.toList) j T).2).1], (rElem s.data.toList (iter (rElem s.data.toList) j T).2).2) = _; rw [hI]; simp only [rElem, bnd, rt, hq1, hq2])
      have H1 := hR.text 32
      rw [hq1] at H1
      dsimp only at H1
      clear hI hq1
      go_wp2_with fail
      refine H1.mono ?_; rintro e w1 ⟨rfl, g1⟩
      obtain ⟨wp, wc, kp, kc, hX⟩ := g1.rx
      have hX0 := hX.below (below_drew (Below.refl _ _))
      clear g1 H1 hX hR
      go_wp2
      refine Ph.region_at (by kernel_rfl) ?_
      refine Ph.at_free 7 11 (fun w' => w'.cell? ⟨x, 14, none⟩ = some (.slice wp L.length wc)) (by kernel_rfl) ?_
      simp only [List.take_succ_cons, List.take_zero, List.drop_succ_cons, List.drop_zero]
      apply Ph.wpF_op; (focus (intro w1 hT; go_simp; exact rfl)); simp only [Act.put, List.setIfInBounds_toArray, List.set_cons_zero, List.set_cons_succ]
      apply Ph.wpF_op; (focus (intro w1 hT; go_simp; exact rfl)); simp only [Act.put, List.setIfInBounds_toArray, List.set_cons_zero, List.set_cons_succ]
      apply Ph.wpF_op; (focus (intro w1 hT; go_simp; exact rfl)); simp only [Act.put, List.setIfInBounds_toArray, List.set_cons_zero, List.set_cons_succ]
      apply Ph.wpF_op; (focus (intro w1 hT; go_simp; exact rfl)); simp only [Act.put, List.setIfInBounds_toArray, List.set_cons_zero, List.set_cons_succ]
      apply Ph.wpF_op; (focus (intro w1 hT; go_simp; exact rfl)); simp only [Act.put, List.setIfInBounds_toArray, List.set_cons_zero, List.set_cons_succ]
      apply Ph.wpF_op; (focus (intro w1 hT; go_simp; exact rfl)); simp only [Act.put, List.setIfInBounds_toArray, List.set_cons_zero, List.set_cons_succ]
      apply Ph.wpF_op; (focus (intro w1 hT; go_simp; exact rfl)); simp only [Act.put, List.setIfInBounds_toArray, List.set_cons_zero, List.set_cons_succ]
      refine Ph.wpF_nil ?_
      rw [show List.range' 7 (11 - 7) = [7, 8, 9, 10] from rfl]
      refine Ph.wpT_op rfl rfl (hX0.cells.1 14) (v := .agg #[.bool vh, .string vd]) (S := fun w' => RX col0 w0 b x s t2 ({ mz 1 with ses := v1, seq := v2, W := L } : Mg) wp wc kp kc w') (by have h9 := hX0.val hq2; go_simp; refine h9.mono ?_; rintro e w2 ⟨rfl, h⟩; exact ⟨rfl, h⟩) ?_
      intro w2 hS
      simp only [Act.put, List.setIfInBounds_toArray, List.set_cons_zero, List.set_cons_succ]
      refine Ph.wpT_op rfl rfl (hS.cells.1 14) (S := fun w' => w2 = w') (by go_simp; first | exact rfl | exact ⟨rfl, rfl⟩) ?_
      rintro _ rfl
      simp only [Act.put, List.setIfInBounds_toArray, List.set_cons_zero, List.set_cons_succ]
      have hbA : Below w2.heap.size w2 (w2.alloc (.cells #[.string k, .bool vh, .string vd] 49)) := below_alloc (Below.refl _ _) _
      refine Ph.wpT_op rfl rfl (hS.cells.1 14) (S := fun w' => w2.alloc (.cells #[.string k, .bool vh, .string vd] 49) = w') (by go_simp; first | exact rfl | exact ⟨rfl, rfl⟩) ?_
      rintro _ rfl
      simp only [Act.put, List.setIfInBounds_toArray, List.set_cons_zero, List.set_cons_succ]
      have hSA := hS.below hbA
      refine Ph.wpT_gives rfl rfl (hSA.cells.1 14) ?_
      obtain ⟨col, m1, m2, m3, m4, m5⟩ := hSA
      have hcA := hp_cell (hp_alloc_new w2 (.cells #[.string k, .bool vh, .string vd] 49))
      refine gives_append_col (.tmp 60) (.tmp 65) 27 rfl 49 i0 (.agg #[.string ⟨#[]⟩, .bool false, .string ⟨#[]⟩]) 3 40 Try.underlying27 HZ.out.1 HZ.out.2.1 HZ.out.2.2.1 HZ.out.2.2.2 rfl (by decide) (.slice wp L.length wc) L.length (L.flatMap encW) rfl m4 ⟨w2.heap.size, 0, none⟩ 1 1 (encW ⟨k, vh, vd⟩) rfl rfl (fun j u hu => by have := hcA j; rw [Addr.add_lit, Nat.zero_add, this]; simpa [encW] using hu) (encW_one _) ?c3 ?c4 ?kk
      case c3 => have := HLl.out; unfold maxLen; omega
      case c4 => have := HLl.out; omega
      case kk =>
      intro p' c' w3 hr3 hC3 hg3
      have mb := m3.kept hC3.mv (by simp)
      have hcb := hp_cell mb.hp
      have hfb := hp_free mb.hp
      refine Ph.wpT_nil (hcb 14) ?_
      simp only [Act.put, List.setIfInBounds_toArray, List.set_cons_zero, List.set_cons_succ]
      dsimp only [Mg.cs, mz, Mg.zero] at hcb
      have HF := Lib.hid (rx_growW m1 m2 m3 m5 (e := ⟨k, vh, vd⟩) hr3 hC3)
      clear m1 m2 m3 m4 m5 hr3 hC3 hg3 mb hbA hcA hS hX0
      refine Ph.at_op rfl (by kernel_rfl) ?_
      go_wp2
      refine Ph.at_op rfl (by kernel_rfl) ?_
      go_wp2
      refine Ph.at_op rfl (by kernel_rfl) ?_
      go_wp2
      refine Ph.at_end (by simp) ?_
      go_wp2
      go_roundw
      case rel => exact ⟨j + 1, by go_num, by omega, by rw [HNX.out]; exact HF.out⟩
      case measure => simp [intOf]; omega
    · obtain rfl : j = N := by omega
      have hR' := Lib.hid hR
      obtain ⟨wp, wc, kp, kc, hc, hf, -⟩ := hR.cells
      dsimp only [mz, Mg.zero] at hc
      clear hR
      go_wp2
      all_goals refine bodyPost_end (results_none rfl _ _ _) rfl ⟨rfl, ?_⟩
      all_goals exact hR'.out

end Go.Proofs.Ytiklpifaaogcpaa
