/- The lane that reads. -/
import Derived.Test.YtiklpifaaogcpaaKl
import Derived.WalkKit
import Derived.WalkLawsBesides
import Derived.WalkSpells
import Derived.Below
import Derived.Deep.RegionHeld3
import Derived.Deep.QuietTactic
import Derived.BigQuiet
import Derived.Deep.DeepCutAuto
import Derived.Deep.DeepMust
import Derived.KernelRfl
import Derived.Lib.Hide
import Derived.Outline
import Derived.RegionTactic
import Derived.StillTailTactics
import Derived.Laws.IdiomStrings
import Derived.Handy
namespace Go.Proofs.Ytiklpifaaogcpaa
open Go.RowKit Go.Cl Go.Wr Go.Kc
set_option maxRecDepth 100000
set_option linter.unusedVariables false
set_option linter.unusedSimpArgs false


theorem mv_set {S : List Nat} {col col' : Nat → Nat} {w w1 : World} (h : Mv S col w col' w1) {p : Addr} (hp : col' p.block ∈ S) (u : Value) : Mv S col w col' (w1.setCell p u) :=
  ⟨h.os, h.tape, h.output, by have := h.size; simpa [World.setCell] using this, fun k hk hc => by
    rw [heap_set w1 p u (fun e => hc (by rw [← h.col k hk, e]; exact hp))]; exact h.block k hk hc, h.col⟩
theorem in_look (b : Nat) (col : Nat → Nat) (w : World) (s : ByteArray) (t : St) (h : Rds 126 col 1 w b s t) :
    Calls Try.prog 100 #[.agg #[.pointer (some ⟨b, 0, none⟩)]] w fun e w' => Below w.heap.size w w' ∧ (t.e = 0 → e = .returned (.tuple #[])) ∧ (t.e ≠ 0 → e = .panicked [{ v := .iface 79 (.agg #[.int .i64 (t.e : Int)]), recovered := false }]) := by
  have hb : Below w.heap.size w (w.alloc (.cells #[.pointer (some ⟨b, 0, none⟩)] 84)) := below_alloc (Below.refl _ _) _
  have HE := Lib.hid (rd_err col 1 _ b s t (h.below hb))
  have HB := Lib.hid hb; clear hb h
  generalize t.e = er at *
  by_cases h0 : er = 0
  · subst h0
    go_enter Try.func100, Try.ntmps100
    go_wp2_with (refine HE.out.mono ?_; rintro e w1 ⟨rfl, rfl⟩)
    refine bodyPost_end (results_none rfl _ _ _) rfl ?_
    exact ⟨HB.out, fun _ => rfl, fun h => absurd rfl h⟩
  · have b1 : ((er : Int) != 0) = true := by simp; omega
    have H0 := Lib.hid h0; clear h0
    go_enter Try.func100, Try.ntmps100
    go_wp2_with (refine HE.out.mono ?_; rintro e w1 ⟨rfl, rfl⟩)
    exact ⟨rfl, HB.out, fun h => absurd h H0.out, fun _ => rfl⟩

theorem in_num (b : Nat) (sb : ByteArray) (col : Nat → Nat) (w : World) (p : Nat) (i x k : Nat) (cs : Array Value) (T : TypeId) (n : Int) (h : Rds 126 col 1 w b sb ⟨p, 0⟩) (hB : Blk col i w x cs T) (hi : i ≠ 1) (hk : cs[k]? = some (.int .i64 n)) :
    Calls Try.prog 101 #[.agg #[.pointer (some ⟨b, 0, none⟩)], .pointer (some ⟨x, k, none⟩)] w (LPost (fun c W p => Rds 126 c 1 W b sb ⟨p, 0⟩) [1, i] col w ((inO sb.data.toList).num n p) (fun n' col' w' => Blk col' i w' x (cs.setIfInBounds k (.int .i64 n')) T) (Kep x i T cs.size)) := by
  have hb : Below w.heap.size w (w.alloc (.cells #[.pointer (some ⟨b, 0, none⟩)] 84)) := below_alloc (Below.refl _ _) _
  have hm0 : Mv [1, i] col w (paint col w 4) (w.alloc (.cells #[.pointer (some ⟨b, 0, none⟩)] 84)) := Mv.new hb 4
  have HC := Lib.hid (rd_num (paint col w 4) 1 _ b sb ⟨p, 0⟩ (h.kept (Mv.new (S := []) hb 4) (by simp)))
  have hB1 : Blk (paint col w 4) i _ x cs T := hB.kept (Mv.new (S := []) hb 4) (by simp)
  have hn1 : Blk (paint col w 4) 4 _ w.heap.size #[.pointer (some ⟨b, 0, none⟩)] 84 := ⟨hp_alloc_new w (.cells #[.pointer (some ⟨b, 0, none⟩)] 84), paint_new (Nat.le_refl _)⟩
  have hxne : x ≠ w.heap.size := by have := hp_lt hB.hp; omega
  have hg : ((inO sb.data.toList).num n p) = ofR id (rNum sb.data.toList ⟨p, 0⟩) := rfl
  rw [hg]
  clear hg hb h hB
  generalize hW0 : w.alloc (.cells #[.pointer (some ⟨b, 0, none⟩)] 84) = W0 at HC hm0 hB1 hn1
  generalize (rNum sb.data.toList ⟨p, 0⟩) = R at *
  have HK := Lib.hid hk; clear hk
  have HX := Lib.hid hxne; clear hxne
  have HI := Lib.hid hi; clear hi
  generalize hH : w.heap.size = z0 at hn1 HX
  go_enter Try.func101, Try.ntmps101
  go_upto_region 1 with fail
  have c0 := hp_cell hn1.hp
  go_wp2_with fail
  refine HC.out.mono ?_
  rintro e w1 ⟨rfl, hR1, hC1⟩
  have hm1 := hm0.trans (hC1.mv' (by simp))
  have hB2 := hB1.kept hC1.mv (by simpa using HI.out)
  have hn2 := hn1.kept hC1.mv (by decide)
  generalize paint (paint col w 4) W0 1 = col1 at hR1 hm1 hB2 hn2
  have hk2 := hp_cell hB2.hp k
  rw [HK.out] at hk2
  have hf2 := hp_free hB2.hp k
  have hm2 := mv_set hm1 (p := ⟨x, k, none⟩) (by rw [hB2.col]; simp) (.int .i64 R.1)
  have hB3 : Blk col1 i (w1.setCell ⟨x, k, none⟩ (.int .i64 R.1)) x (cs.setIfInBounds k (.int .i64 R.1)) T := ⟨hp_set hB2.hp _, hB2.col⟩
  have hn3 : Blk col1 4 (w1.setCell ⟨x, k, none⟩ (.int .i64 R.1)) z0 #[.pointer (some ⟨b, 0, none⟩)] 84 := ⟨hp_set_ne hn2.hp (p := ⟨x, k, none⟩) (Ne.symm HX.out) (.int .i64 R.1), hn2.col⟩
  have hR3 : Rds 126 col1 1 (w1.setCell ⟨x, k, none⟩ (.int .i64 R.1)) b sb R.2 := ⟨⟨hp_set_ne hR1.blk.hp (p := ⟨x, k, none⟩) (by have h1 := hR1.blk.col; have h2 := hB2.col; intro e; simp only at e; rw [e] at h1; exact HI.out (by rw [← h2]; exact h1)) (.int .i64 R.1), hR1.blk.col⟩, hR1.ok, hR1.len⟩
  clear c0 hn2 hB2 hm1 hB1 hn1 hm0 hR1
  generalize hW2 : w1.setCell ⟨x, k, none⟩ (.int .i64 R.1) = W2 at hm2 hB3 hn3 hR3
  have c3 := hp_cell hn3.hp
  go_wp2_with fail
  refine (in_look b col1 W2 sb _ hR3).mono ?_
  rintro e w3 ⟨hb3, e0, e1⟩
  have hm3 := hm2.after_below hb3
  by_cases h0 : R.2.e = 0
  · have e0' := e0 h0
    subst e0'
    clear e0 e1
    go_wp2
    refine bodyPost_end (results_none rfl _ _ _) rfl ?_
    have hRd : Rds 126 col1 1 w3 b sb ⟨R.2.at_, 0⟩ := by
      have := hR3.kept (Mv.of_below (S := []) (col := col1) hb3) (by simp)
      rwa [show R.2 = ⟨R.2.at_, 0⟩ from by rw [← h0]] at this
    exact ⟨col1, hm3, .inl ⟨id R.1, by unfold ofR; rw [if_pos h0], rfl, hRd, hB3.kept (Mv.of_below (S := []) hb3) (by simp)⟩⟩
  · have e1' := e1 h0
    subst e1'
    clear e0 e1
    exact ⟨rfl, col1, hm3, .inr ⟨R.2.e, by unfold ofR; rw [if_neg h0], h0, rfl, _, hB3.kept (Mv.of_below (S := []) hb3) (by simp), by simp⟩⟩

theorem in_text (b : Nat) (sb : ByteArray) (col : Nat → Nat) (w : World) (p : Nat) (i x k : Nat) (cs : Array Value) (T : TypeId) (t : ByteArray) (m : Int) (h : Rds 126 col 1 w b sb ⟨p, 0⟩) (hB : Blk col i w x cs T) (hi : i ≠ 1) (hk : cs[k]? = some (.string t)) :
    Calls Try.prog 102 #[.agg #[.pointer (some ⟨b, 0, none⟩)], .pointer (some ⟨x, k, none⟩), .int .i64 m] w (LPost (fun c W p => Rds 126 c 1 W b sb ⟨p, 0⟩) [1, i] col w ((inO sb.data.toList).text t m p) (fun n' col' w' => Blk col' i w' x (cs.setIfInBounds k (.string n')) T) (Kep x i T cs.size)) := by
  have hb : Below w.heap.size w (w.alloc (.cells #[.pointer (some ⟨b, 0, none⟩)] 84)) := below_alloc (Below.refl _ _) _
  have hm0 : Mv [1, i] col w (paint col w 4) (w.alloc (.cells #[.pointer (some ⟨b, 0, none⟩)] 84)) := Mv.new hb 4
  have HC := Lib.hid (rd_text (paint col w 4) 1 _ b sb ⟨p, 0⟩ (h.kept (Mv.new (S := []) hb 4) (by simp)) m)
  have hB1 : Blk (paint col w 4) i _ x cs T := hB.kept (Mv.new (S := []) hb 4) (by simp)
  have hn1 : Blk (paint col w 4) 4 _ w.heap.size #[.pointer (some ⟨b, 0, none⟩)] 84 := ⟨hp_alloc_new w (.cells #[.pointer (some ⟨b, 0, none⟩)] 84), paint_new (Nat.le_refl _)⟩
  have hxne : x ≠ w.heap.size := by have := hp_lt hB.hp; omega
  have hg : ((inO sb.data.toList).text t m p) = ofR (fun l => ⟨l.toArray⟩) (rText sb.data.toList m ⟨p, 0⟩) := rfl
  rw [hg]
  clear hg hb h hB
  generalize hW0 : w.alloc (.cells #[.pointer (some ⟨b, 0, none⟩)] 84) = W0 at HC hm0 hB1 hn1
  generalize (rText sb.data.toList m ⟨p, 0⟩) = R at *
  have HK := Lib.hid hk; clear hk
  have HX := Lib.hid hxne; clear hxne
  have HI := Lib.hid hi; clear hi
  generalize hH : w.heap.size = z0 at hn1 HX
  go_enter Try.func102, Try.ntmps102
  go_upto_region 1 with fail
  have c0 := hp_cell hn1.hp
  go_wp2_with fail
  refine HC.out.mono ?_
  rintro e w1 ⟨rfl, hR1, hC1⟩
  have hm1 := hm0.trans (hC1.mv' (by simp))
  have hB2 := hB1.kept hC1.mv (by simpa using HI.out)
  have hn2 := hn1.kept hC1.mv (by decide)
  generalize paint (paint col w 4) W0 1 = col1 at hR1 hm1 hB2 hn2
  have hk2 := hp_cell hB2.hp k
  rw [HK.out] at hk2
  have hf2 := hp_free hB2.hp k
  have hm2 := mv_set hm1 (p := ⟨x, k, none⟩) (by rw [hB2.col]; simp) (.string ⟨R.1.toArray⟩)
  have hB3 : Blk col1 i (w1.setCell ⟨x, k, none⟩ (.string ⟨R.1.toArray⟩)) x (cs.setIfInBounds k (.string ⟨R.1.toArray⟩)) T := ⟨hp_set hB2.hp _, hB2.col⟩
  have hn3 : Blk col1 4 (w1.setCell ⟨x, k, none⟩ (.string ⟨R.1.toArray⟩)) z0 #[.pointer (some ⟨b, 0, none⟩)] 84 := ⟨hp_set_ne hn2.hp (p := ⟨x, k, none⟩) (Ne.symm HX.out) (.string ⟨R.1.toArray⟩), hn2.col⟩
  have hR3 : Rds 126 col1 1 (w1.setCell ⟨x, k, none⟩ (.string ⟨R.1.toArray⟩)) b sb R.2 := ⟨⟨hp_set_ne hR1.blk.hp (p := ⟨x, k, none⟩) (by have h1 := hR1.blk.col; have h2 := hB2.col; intro e; simp only at e; rw [e] at h1; exact HI.out (by rw [← h2]; exact h1)) (.string ⟨R.1.toArray⟩), hR1.blk.col⟩, hR1.ok, hR1.len⟩
  clear c0 hn2 hB2 hm1 hB1 hn1 hm0 hR1
  generalize hW2 : w1.setCell ⟨x, k, none⟩ (.string ⟨R.1.toArray⟩) = W2 at hm2 hB3 hn3 hR3
  have c3 := hp_cell hn3.hp
  go_wp2_with fail
  refine (in_look b col1 W2 sb _ hR3).mono ?_
  rintro e w3 ⟨hb3, e0, e1⟩
  have hm3 := hm2.after_below hb3
  by_cases h0 : R.2.e = 0
  · have e0' := e0 h0
    subst e0'
    clear e0 e1
    go_wp2
    refine bodyPost_end (results_none rfl _ _ _) rfl ?_
    have hRd : Rds 126 col1 1 w3 b sb ⟨R.2.at_, 0⟩ := by
      have := hR3.kept (Mv.of_below (S := []) (col := col1) hb3) (by simp)
      rwa [show R.2 = ⟨R.2.at_, 0⟩ from by rw [← h0]] at this
    exact ⟨col1, hm3, .inl ⟨(fun l => ⟨l.toArray⟩) R.1, by unfold ofR; rw [if_pos h0], rfl, hRd, hB3.kept (Mv.of_below (S := []) hb3) (by simp)⟩⟩
  · have e1' := e1 h0
    subst e1'
    clear e0 e1
    exact ⟨rfl, col1, hm3, .inr ⟨R.2.e, by unfold ofR; rw [if_neg h0], h0, rfl, _, hB3.kept (Mv.of_below (S := []) hb3) (by simp), by simp⟩⟩

theorem in_bool (b : Nat) (sb : ByteArray) (col : Nat → Nat) (w : World) (p : Nat) (i x k : Nat) (cs : Array Value) (T : TypeId) (y : Bool) (h : Rds 126 col 1 w b sb ⟨p, 0⟩) (hB : Blk col i w x cs T) (hi : i ≠ 1) (hk : cs[k]? = some (.bool y)) :
    Calls Try.prog 103 #[.agg #[.pointer (some ⟨b, 0, none⟩)], .pointer (some ⟨x, k, none⟩)] w (LPost (fun c W p => Rds 126 c 1 W b sb ⟨p, 0⟩) [1, i] col w ((inO sb.data.toList).bool y p) (fun n' col' w' => Blk col' i w' x (cs.setIfInBounds k (.bool n')) T) (Kep x i T cs.size)) := by
  have hb : Below w.heap.size w (w.alloc (.cells #[.pointer (some ⟨b, 0, none⟩)] 84)) := below_alloc (Below.refl _ _) _
  have hm0 : Mv [1, i] col w (paint col w 4) (w.alloc (.cells #[.pointer (some ⟨b, 0, none⟩)] 84)) := Mv.new hb 4
  have HC := Lib.hid (rd_bool (paint col w 4) 1 _ b sb ⟨p, 0⟩ (h.kept (Mv.new (S := []) hb 4) (by simp)))
  have hB1 : Blk (paint col w 4) i _ x cs T := hB.kept (Mv.new (S := []) hb 4) (by simp)
  have hn1 : Blk (paint col w 4) 4 _ w.heap.size #[.pointer (some ⟨b, 0, none⟩)] 84 := ⟨hp_alloc_new w (.cells #[.pointer (some ⟨b, 0, none⟩)] 84), paint_new (Nat.le_refl _)⟩
  have hxne : x ≠ w.heap.size := by have := hp_lt hB.hp; omega
  have hg : ((inO sb.data.toList).bool y p) = ofR id (rBool sb.data.toList ⟨p, 0⟩) := rfl
  rw [hg]
  clear hg hb h hB
  generalize hW0 : w.alloc (.cells #[.pointer (some ⟨b, 0, none⟩)] 84) = W0 at HC hm0 hB1 hn1
  generalize (rBool sb.data.toList ⟨p, 0⟩) = R at *
  have HK := Lib.hid hk; clear hk
  have HX := Lib.hid hxne; clear hxne
  have HI := Lib.hid hi; clear hi
  generalize hH : w.heap.size = z0 at hn1 HX
  go_enter Try.func103, Try.ntmps103
  go_upto_region 1 with fail
  have c0 := hp_cell hn1.hp
  go_wp2_with fail
  refine HC.out.mono ?_
  rintro e w1 ⟨rfl, hR1, hC1⟩
  have hm1 := hm0.trans (hC1.mv' (by simp))
  have hB2 := hB1.kept hC1.mv (by simpa using HI.out)
  have hn2 := hn1.kept hC1.mv (by decide)
  generalize paint (paint col w 4) W0 1 = col1 at hR1 hm1 hB2 hn2
  have hk2 := hp_cell hB2.hp k
  rw [HK.out] at hk2
  have hf2 := hp_free hB2.hp k
  have hm2 := mv_set hm1 (p := ⟨x, k, none⟩) (by rw [hB2.col]; simp) (.bool R.1)
  have hB3 : Blk col1 i (w1.setCell ⟨x, k, none⟩ (.bool R.1)) x (cs.setIfInBounds k (.bool R.1)) T := ⟨hp_set hB2.hp _, hB2.col⟩
  have hn3 : Blk col1 4 (w1.setCell ⟨x, k, none⟩ (.bool R.1)) z0 #[.pointer (some ⟨b, 0, none⟩)] 84 := ⟨hp_set_ne hn2.hp (p := ⟨x, k, none⟩) (Ne.symm HX.out) (.bool R.1), hn2.col⟩
  have hR3 : Rds 126 col1 1 (w1.setCell ⟨x, k, none⟩ (.bool R.1)) b sb R.2 := ⟨⟨hp_set_ne hR1.blk.hp (p := ⟨x, k, none⟩) (by have h1 := hR1.blk.col; have h2 := hB2.col; intro e; simp only at e; rw [e] at h1; exact HI.out (by rw [← h2]; exact h1)) (.bool R.1), hR1.blk.col⟩, hR1.ok, hR1.len⟩
  clear c0 hn2 hB2 hm1 hB1 hn1 hm0 hR1
  generalize hW2 : w1.setCell ⟨x, k, none⟩ (.bool R.1) = W2 at hm2 hB3 hn3 hR3
  have c3 := hp_cell hn3.hp
  go_wp2_with fail
  refine (in_look b col1 W2 sb _ hR3).mono ?_
  rintro e w3 ⟨hb3, e0, e1⟩
  have hm3 := hm2.after_below hb3
  by_cases h0 : R.2.e = 0
  · have e0' := e0 h0
    subst e0'
    clear e0 e1
    go_wp2
    refine bodyPost_end (results_none rfl _ _ _) rfl ?_
    have hRd : Rds 126 col1 1 w3 b sb ⟨R.2.at_, 0⟩ := by
      have := hR3.kept (Mv.of_below (S := []) (col := col1) hb3) (by simp)
      rwa [show R.2 = ⟨R.2.at_, 0⟩ from by rw [← h0]] at this
    exact ⟨col1, hm3, .inl ⟨id R.1, by unfold ofR; rw [if_pos h0], rfl, hRd, hB3.kept (Mv.of_below (S := []) hb3) (by simp)⟩⟩
  · have e1' := e1 h0
    subst e1'
    clear e0 e1
    exact ⟨rfl, col1, hm3, .inr ⟨R.2.e, by unfold ofR; rw [if_neg h0], h0, rfl, _, hB3.kept (Mv.of_below (S := []) hb3) (by simp), by simp⟩⟩

end Go.Proofs.Ytiklpifaaogcpaa
