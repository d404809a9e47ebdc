/- A message in memory, and what a step over one of its fields does. -/
import Derived.Test.YtiklpifaaogcpaaKw
import Derived.WalkKit
import Derived.WalkLawsBesides
import Derived.WalkSpells
import Derived.Below
import Derived.Deep.RegionHeld3
import Derived.Deep.QuietTactic
import Derived.BigQuiet
import Derived.Deep.DeepCutAuto
import Derived.Deep.DeepMust
import Derived.KernelRfl
import Derived.Lib.Hide
import Derived.Outline
import Derived.RegionTactic
import Derived.StillTailTactics
import Derived.Laws.IdiomStrings
import Derived.Handy
namespace Go.Proofs.Ytiklpifaaogcpaa
open Go.RowKit Go.Cl Go.Wr Go.Kc
set_option maxRecDepth 100000
set_option linter.unusedVariables false
set_option linter.unusedSimpArgs false


theorem LPost.mono {σ α : Type} {LS : (Nat → Nat) → World → σ → Prop} {S S' : List Nat} {col : Nat → Nat} {w : World} {r : Except Nat α × σ} {J J' : α → (Nat → Nat) → World → Prop} {E E' : (Nat → Nat) → World → Prop} {e : Ending} {w' : World}
    (h : LPost LS S col w r J E e w') (hs : ∀ z, z ∈ S → z ∈ S') (hj : ∀ a c, Mv S col w c w' → J a c w' → J' a c w') (he : ∀ c, Mv S col w c w' → E c w' → E' c w') : LPost LS S' col w r J' E' e w' := by
  obtain ⟨c, hm, h⟩ := h
  refine ⟨c, hm.sub hs, ?_⟩
  rcases h with ⟨a, h1, h2, h3, h4⟩ | h
  · exact .inl ⟨a, h1, h2, h3, hj a c hm h4⟩
  · obtain ⟨er, h1, h2, h3, h4⟩ := h
    exact .inr ⟨er, h1, h2, h3, he c hm h4⟩
theorem LPost.pre {σ α : Type} {LS : (Nat → Nat) → World → σ → Prop} {S : List Nat} {col c1 : Nat → Nat} {w w1 : World} {r : Except Nat α × σ} {J : α → (Nat → Nat) → World → Prop} {E : (Nat → Nat) → World → Prop} {e : Ending} {w' : World}
    (hm : Mv S col w c1 w1) (h : LPost LS S c1 w1 r J E e w') : LPost LS S col w r J E e w' := by
  obtain ⟨c, hm2, h⟩ := h
  exact ⟨c, hm.trans hm2, h⟩
def encW (x : Wt) : List Value := [.string x.k, .bool x.h, .string x.d]
def encS (x : ByteArray) : List Value := [.string x]
theorem encW_ok : Enc Wt encW 3 := ⟨fun _ => rfl, fun _ u hu => by simp [encW] at hu; rcases hu with rfl | rfl | rfl <;> rfl⟩
theorem encS_ok : Enc ByteArray encS 1 := ⟨fun _ => rfl, fun _ u hu => by simp [encS] at hu; subst hu; rfl⟩
def _root_.Go.Kc.Mg.cs (m : Mg) (wp : Option Addr) (wc : Nat) (kp : Option Addr) (kc : Nat) : Array Value :=
  #[.int .i64 m.kind, .int .i64 m.node, .int .i64 m.inc, .int .i64 m.ses, .int .i64 m.tx, .int .i64 m.seq, .string m.key, .int .i64 m.lo, .int .i64 m.hi, .bool m.has, .string m.data, .bool m.hit, .int .i64 m.err, .int .i64 m.n, .slice wp m.W.length wc, .slice kp m.K.length kc]
/-- A message in memory: its struct is owner 2's, its writes 3's, its keys 5's. -/
structure MsgAt (col : Nat → Nat) (w : World) (x : Nat) (m : Mg) : Prop where
  ex : ∃ wp wc kp kc, Blk col 2 w x (m.cs wp wc kp kc) 30 ∧ Row col 3 w 49 3 (.slice wp m.W.length wc) m.W.length (m.W.flatMap encW) ∧ Row col 5 w 9 1 (.slice kp m.K.length kc) m.K.length (m.K.flatMap encS)
theorem MsgAt.kept {col col' : Nat → Nat} {w w' : World} {x : Nat} {m : Mg} (h : MsgAt col w x m) {S : List Nat} (hm : Mv S col w col' w') (h2 : 2 ∉ S) (h3 : 3 ∉ S) (h5 : 5 ∉ S) : MsgAt col' w' x m := by
  obtain ⟨wp, wc, kp, kc, hb, hw, hk⟩ := h
  exact ⟨wp, wc, kp, kc, hb.kept hm h2, hw.kept hm h3, hk.kept hm h5⟩
theorem MsgAt.below {col : Nat → Nat} {w w' : World} {x : Nat} {m : Mg} (h : MsgAt col w x m) (hb : Below w.heap.size w w') : MsgAt col w' x m := h.kept (Mv.of_below (S := []) hb) (by simp) (by simp) (by simp)
theorem MsgAt.c0 {col : Nat → Nat} {w : World} {x : Nat} {m : Mg} (h : MsgAt col w x m) : w.cell? ⟨x, 0, none⟩ = some (.int .i64 m.kind) := by
  obtain ⟨wp, wc, kp, kc, hb, _⟩ := h; exact hp_cell hb.hp 0
theorem MsgAt.c11 {col : Nat → Nat} {w : World} {x : Nat} {m : Mg} (h : MsgAt col w x m) : w.cell? ⟨x, 11, none⟩ = some (.bool m.hit) := by
  obtain ⟨wp, wc, kp, kc, hb, _⟩ := h; exact hp_cell hb.hp 11
theorem MsgAt.c12 {col : Nat → Nat} {w : World} {x : Nat} {m : Mg} (h : MsgAt col w x m) : w.cell? ⟨x, 12, none⟩ = some (.int .i64 m.err) := by
  obtain ⟨wp, wc, kp, kc, hb, _⟩ := h; exact hp_cell hb.hp 12
def I64 (n : Int) : Prop := -9223372036854775808 ≤ n ∧ n ≤ 9223372036854775807
structure _root_.Go.Kc.Mg.In (m : Mg) : Prop where
  kind : I64 m.kind
  node : I64 m.node
  inc : I64 m.inc
  ses : I64 m.ses
  tx : I64 m.tx
  seq : I64 m.seq
  lo : I64 m.lo
  hi : I64 m.hi
  err : I64 m.err
  n : I64 m.n
section
variable {σ : Type} (Λ : Lane σ)
theorem f_node (col : Nat → Nat) (w : World) (s : σ) (x : Nat) (m : Mg) (hS : Λ.LS col w s) (hM : MsgAt col w x m) (hr : I64 m.node) (hf : Λ.fit (Λ.o.num m.node s).2) :
    Calls Try.prog 19 #[.iface Λ.lt Λ.lv, .pointer (some ⟨x, 1, none⟩)] w (LPost Λ.LS [1, 4, 2] col w (Λ.o.num m.node s) (fun y c w' => MsgAt c w' x { m with node := y }) (Kep x 2 30 16)) := by
  obtain ⟨wp, wc, kp, kc, hb, hw, hk⟩ := hM
  refine (c_whole Λ col w s 2 x 1 _ 30 m.node hS hb (by decide) (by decide) rfl hr.1 hr.2 hf).mono fun e w' h => h.mono (by simp) (fun y c hm hJ => ?_) (fun c hm hE => hE)
  exact ⟨wp, wc, kp, kc, hJ, hw.kept hm (by decide), hk.kept hm (by decide)⟩
theorem f_inc (col : Nat → Nat) (w : World) (s : σ) (x : Nat) (m : Mg) (hS : Λ.LS col w s) (hM : MsgAt col w x m) (hr : I64 m.inc) (hf : Λ.fit (Λ.o.num m.inc s).2) :
    Calls Try.prog 19 #[.iface Λ.lt Λ.lv, .pointer (some ⟨x, 2, none⟩)] w (LPost Λ.LS [1, 4, 2] col w (Λ.o.num m.inc s) (fun y c w' => MsgAt c w' x { m with inc := y }) (Kep x 2 30 16)) := by
  obtain ⟨wp, wc, kp, kc, hb, hw, hk⟩ := hM
  refine (c_whole Λ col w s 2 x 2 _ 30 m.inc hS hb (by decide) (by decide) rfl hr.1 hr.2 hf).mono fun e w' h => h.mono (by simp) (fun y c hm hJ => ?_) (fun c hm hE => hE)
  exact ⟨wp, wc, kp, kc, hJ, hw.kept hm (by decide), hk.kept hm (by decide)⟩
theorem f_ses (col : Nat → Nat) (w : World) (s : σ) (x : Nat) (m : Mg) (hS : Λ.LS col w s) (hM : MsgAt col w x m) (hr : I64 m.ses) (hf : Λ.fit (Λ.o.num m.ses s).2) :
    Calls Try.prog 19 #[.iface Λ.lt Λ.lv, .pointer (some ⟨x, 3, none⟩)] w (LPost Λ.LS [1, 4, 2] col w (Λ.o.num m.ses s) (fun y c w' => MsgAt c w' x { m with ses := y }) (Kep x 2 30 16)) := by
  obtain ⟨wp, wc, kp, kc, hb, hw, hk⟩ := hM
  refine (c_whole Λ col w s 2 x 3 _ 30 m.ses hS hb (by decide) (by decide) rfl hr.1 hr.2 hf).mono fun e w' h => h.mono (by simp) (fun y c hm hJ => ?_) (fun c hm hE => hE)
  exact ⟨wp, wc, kp, kc, hJ, hw.kept hm (by decide), hk.kept hm (by decide)⟩
theorem f_tx (col : Nat → Nat) (w : World) (s : σ) (x : Nat) (m : Mg) (hS : Λ.LS col w s) (hM : MsgAt col w x m) (hr : I64 m.tx) (hf : Λ.fit (Λ.o.num m.tx s).2) :
    Calls Try.prog 19 #[.iface Λ.lt Λ.lv, .pointer (some ⟨x, 4, none⟩)] w (LPost Λ.LS [1, 4, 2] col w (Λ.o.num m.tx s) (fun y c w' => MsgAt c w' x { m with tx := y }) (Kep x 2 30 16)) := by
  obtain ⟨wp, wc, kp, kc, hb, hw, hk⟩ := hM
  refine (c_whole Λ col w s 2 x 4 _ 30 m.tx hS hb (by decide) (by decide) rfl hr.1 hr.2 hf).mono fun e w' h => h.mono (by simp) (fun y c hm hJ => ?_) (fun c hm hE => hE)
  exact ⟨wp, wc, kp, kc, hJ, hw.kept hm (by decide), hk.kept hm (by decide)⟩
theorem f_seq (col : Nat → Nat) (w : World) (s : σ) (x : Nat) (m : Mg) (hS : Λ.LS col w s) (hM : MsgAt col w x m) (hr : I64 m.seq) (hf : Λ.fit (Λ.o.num m.seq s).2) :
    Calls Try.prog 19 #[.iface Λ.lt Λ.lv, .pointer (some ⟨x, 5, none⟩)] w (LPost Λ.LS [1, 4, 2] col w (Λ.o.num m.seq s) (fun y c w' => MsgAt c w' x { m with seq := y }) (Kep x 2 30 16)) := by
  obtain ⟨wp, wc, kp, kc, hb, hw, hk⟩ := hM
  refine (c_whole Λ col w s 2 x 5 _ 30 m.seq hS hb (by decide) (by decide) rfl hr.1 hr.2 hf).mono fun e w' h => h.mono (by simp) (fun y c hm hJ => ?_) (fun c hm hE => hE)
  exact ⟨wp, wc, kp, kc, hJ, hw.kept hm (by decide), hk.kept hm (by decide)⟩
theorem f_kind (col : Nat → Nat) (w : World) (s : σ) (x : Nat) (m : Mg) (hS : Λ.LS col w s) (hM : MsgAt col w x m) (hr : I64 m.kind) (hf : Λ.fit (Λ.o.num m.kind s).2) :
    Calls Try.prog 19 #[.iface Λ.lt Λ.lv, .pointer (some ⟨x, 0, none⟩)] w (LPost Λ.LS [1, 4, 2] col w (Λ.o.num m.kind s) (fun y c w' => MsgAt c w' x { m with kind := y }) (Kep x 2 30 16)) := by
  obtain ⟨wp, wc, kp, kc, hb, hw, hk⟩ := hM
  refine (c_whole Λ col w s 2 x 0 _ 30 m.kind hS hb (by decide) (by decide) rfl hr.1 hr.2 hf).mono fun e w' h => h.mono (by simp) (fun y c hm hJ => ?_) (fun c hm hE => hE)
  exact ⟨wp, wc, kp, kc, hJ, hw.kept hm (by decide), hk.kept hm (by decide)⟩
theorem f_err (col : Nat → Nat) (w : World) (s : σ) (x : Nat) (m : Mg) (hS : Λ.LS col w s) (hM : MsgAt col w x m) (hr : I64 m.err) (hf : Λ.fit (Λ.o.num m.err s).2) :
    Calls Try.prog 54 #[.iface Λ.lt Λ.lv, .pointer (some ⟨x, 12, none⟩)] w (LPost Λ.LS [1, 4, 2] col w (Λ.o.num m.err s) (fun y c w' => MsgAt c w' x { m with err := y }) (Kep x 2 30 16)) := by
  obtain ⟨wp, wc, kp, kc, hb, hw, hk⟩ := hM
  refine (c_wholeE Λ col w s 2 x 12 _ 30 m.err hS hb (by decide) (by decide) rfl hr.1 hr.2 hf).mono fun e w' h => h.mono (by simp) (fun y c hm hJ => ?_) (fun c hm hE => hE)
  exact ⟨wp, wc, kp, kc, hJ, hw.kept hm (by decide), hk.kept hm (by decide)⟩
theorem f_n (col : Nat → Nat) (w : World) (s : σ) (x : Nat) (m : Mg) (hS : Λ.LS col w s) (hM : MsgAt col w x m) (hr : I64 m.n) (hf : Λ.fit (Λ.o.num m.n s).2) :
    Calls Try.prog Λ.fnum #[Λ.recv, .pointer (some ⟨x, 13, none⟩)] w (LPost Λ.LS [1, 4, 2] col w (Λ.o.num m.n s) (fun y c w' => MsgAt c w' x { m with n := y }) (Kep x 2 30 16)) := by
  obtain ⟨wp, wc, kp, kc, hb, hw, hk⟩ := hM
  refine (Λ.cnum col w s 2 x 13 _ 30 m.n hS hb (by decide) rfl hr.1 hr.2 hf).mono fun e w' h => h.mono (by simp) (fun y c hm hJ => ?_) (fun c hm hE => hE)
  exact ⟨wp, wc, kp, kc, hJ, hw.kept hm (by decide), hk.kept hm (by decide)⟩
theorem f_key (col : Nat → Nat) (w : World) (s : σ) (x : Nat) (m : Mg) (hS : Λ.LS col w s) (hM : MsgAt col w x m) (hf : Λ.fit (Λ.o.text m.key 32 s).2) :
    Calls Try.prog Λ.ftext #[Λ.recv, .pointer (some ⟨x, 6, none⟩), .int .i64 32] w (LPost Λ.LS [1, 4, 2] col w (Λ.o.text m.key 32 s) (fun y c w' => MsgAt c w' x { m with key := y }) (Kep x 2 30 16)) := by
  obtain ⟨wp, wc, kp, kc, hb, hw, hk⟩ := hM
  refine (Λ.ctext col w s 2 x 6 _ 30 m.key 32 hS hb (by decide) rfl hf).mono fun e w' h => h.mono (by simp) (fun y c hm hJ => ?_) (fun c hm hE => hE)
  exact ⟨wp, wc, kp, kc, hJ, hw.kept hm (by decide), hk.kept hm (by decide)⟩
theorem f_hit (col : Nat → Nat) (w : World) (s : σ) (x : Nat) (m : Mg) (hS : Λ.LS col w s) (hM : MsgAt col w x m) (hf : Λ.fit (Λ.o.bool m.hit s).2) :
    Calls Try.prog Λ.fbool #[Λ.recv, .pointer (some ⟨x, 11, none⟩)] w (LPost Λ.LS [1, 4, 2] col w (Λ.o.bool m.hit s) (fun y c w' => MsgAt c w' x { m with hit := y }) (Kep x 2 30 16)) := by
  obtain ⟨wp, wc, kp, kc, hb, hw, hk⟩ := hM
  refine (Λ.cbool col w s 2 x 11 _ 30 m.hit hS hb (by decide) rfl hf).mono fun e w' h => h.mono (by simp) (fun y c hm hJ => ?_) (fun c hm hE => hE)
  exact ⟨wp, wc, kp, kc, hJ, hw.kept hm (by decide), hk.kept hm (by decide)⟩
theorem f_value (col : Nat → Nat) (w : World) (s : σ) (x : Nat) (m : Mg) (hS : Λ.LS col w s) (hM : MsgAt col w x m) (hf : Λ.fit (valueT Λ.o m.has m.data s).2) :
    Calls Try.prog 53 #[.iface Λ.lt Λ.lv, .pointer (some ⟨x, 9, none⟩)] w (LPost Λ.LS [1, 4, 2] col w (valueT Λ.o m.has m.data s) (fun y c w' => MsgAt c w' x { m with has := y.1, data := y.2 }) (Kep x 2 30 16)) := by
  obtain ⟨wp, wc, kp, kc, hb, hw, hk⟩ := hM
  refine (c_value Λ col w s 2 x 9 _ 30 m.has m.data hS hb (by decide) rfl rfl hf).mono fun e w' h => h.mono (by simp) (fun y c hm hJ => ?_) (fun c hm hE => hE)
  exact ⟨wp, wc, kp, kc, hJ, hw.kept hm (by decide), hk.kept hm (by decide)⟩
theorem f_pin (col : Nat → Nat) (w : World) (s : σ) (x : Nat) (m : Mg) (hS : Λ.LS col w s) (hM : MsgAt col w x m) (hl : I64 m.lo) (hh : I64 m.hi) (hf : Λ.fit (pinT Λ.o m.lo m.hi s).2) :
    Calls Try.prog 56 #[.iface Λ.lt Λ.lv, .pointer (some ⟨x, 7, none⟩)] w (LPost Λ.LS [1, 4, 2] col w (pinT Λ.o m.lo m.hi s) (fun y c w' => MsgAt c w' x { m with lo := y.1, hi := y.2 }) (Kep x 2 30 16)) := by
  obtain ⟨wp, wc, kp, kc, hb, hw, hk⟩ := hM
  refine (c_pin Λ col w s 2 x 7 _ 30 m.lo m.hi hS hb (by decide) rfl rfl hl.1 hl.2 hh.1 hh.2 hf).mono fun e w' h => h.mono (by simp) (fun y c hm hJ => ?_) (fun c hm hE => hE)
  exact ⟨wp, wc, kp, kc, hJ, hw.kept hm (by decide), hk.kept hm (by decide)⟩
theorem c_asked (col : Nat → Nat) (w : World) (s : σ) (x : Nat) (m : Mg) (hS : Λ.LS col w s) (hM : MsgAt col w x m) (htx : I64 m.tx) (hsq : I64 m.seq) (hf : Λ.fit (askedT Λ.o m s).2) :
    Calls Try.prog 55 #[.iface Λ.lt Λ.lv, .pointer (some ⟨x, 0, none⟩)] w (LPost Λ.LS [1, 4, 2] col w (askedT Λ.o m s) (fun y c w' => (∃ a b, y = { m with tx := a, seq := b }) ∧ MsgAt c w' x y) (Kep x 2 30 16)) := by
  have HS := Lib.hid hS
  have HM := Lib.hid hM
  have HT := Lib.hid htx
  have HQ := Lib.hid hsq
  have HF := Lib.hid hf
  clear hS hM htx hsq hf
  go_enter Try.func55, Try.ntmps55
  go_wp2_with fail
  refine (f_tx Λ col w s x m HS.out HM.out HT.out (fit_left (fun _ => mono_bind (Λ.fit_num _) fun _ => mono_ret _) HF.out)).mono ?_
  rintro e w3 ⟨c3, hm3, ⟨n', hr, rfl, hS3, hM3⟩ | ⟨er, hr, h0, rfl, hE⟩⟩
  rotate_left
  · exact ⟨rfl, .fail hm3 (bind_error hr) h0 hE⟩
  have hv : askedT Λ.o m s = ((Λ.o.num m.seq).bind fun q => .ret { m with tx := n', seq := q }) (Λ.o.num m.tx s).2 := bind_ok hr
  have HF' := HF.out
  rw [hv] at HF'
  have HF2 := Lib.hid HF'; clear HF' HF
  have HV := Lib.hid hv; clear hv
  go_wp2_with fail
  refine (f_seq Λ c3 w3 _ x _ hS3 hM3 HQ.out (fit_left (fun _ => mono_ret _) HF2.out)).mono ?_
  rintro e w5 ⟨c5, hm5, ⟨d', hr5, rfl, hS5, hB5⟩ | ⟨er, hr5, h0, rfl, hE⟩⟩
  rotate_left
  · exact ⟨rfl, .fail (hm3.trans hm5) (HV.out.trans (bind_error hr5)) h0 hE⟩
  go_wp2
  refine bodyPost_end (results_none rfl _ _ _) rfl ?_
  exact .done (hm3.trans hm5) (HV.out.trans (bind_ok hr5)) hS5 ⟨⟨_, _, rfl⟩, hB5⟩
end

end Go.Proofs.Ytiklpifaaogcpaa
