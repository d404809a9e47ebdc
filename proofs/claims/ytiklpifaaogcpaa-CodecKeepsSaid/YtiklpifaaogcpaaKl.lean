/- Texts laid together: Kp Kl Kl2 Kl3 Kl4. -/
import Derived.Test.YtiklpifaaogcpaaWb
import Derived.Test.YtiklpifaaogcpaaWz
import Derived.Test.YtiklpifaaogcpaaGh
import Derived.WalkKit
import Derived.WalkLawsBesides
import Derived.WalkSpells
import Derived.Below
import Derived.Deep.RegionHeld3
import Derived.Deep.QuietTactic
import Derived.BigQuiet
import Derived.Deep.DeepCutAuto
import Derived.Deep.DeepMust
import Derived.KernelRfl
import Derived.Lib.Hide
import Derived.Outline
import Derived.RegionTactic
import Derived.StillTailTactics
import Derived.Laws.IdiomStrings
import Derived.Handy
namespace Go.Kc
open Go.Wr
/-- A step of a lane: an error's number, or what comes of it. -/
def M (σ α : Type) := σ → Except Nat α × σ
def M.ret {σ α : Type} (a : α) : M σ α := fun s => (.ok a, s)
def M.bind {σ α β : Type} (p : M σ α) (q : α → M σ β) : M σ β := fun s => match p s with | (.error e, s') => (.error e, s') | (.ok a, s') => q a s'
def M.fail {σ α : Type} (e : Nat) : M σ α := fun s => (.error e, s)
structure Ops (σ : Type) where
  num : Int → M σ Int
  bool : Bool → M σ Bool
  text : ByteArray → Int → M σ ByteArray
/-- A key, and its value. -/
structure Wt where
  k : ByteArray
  h : Bool
  d : ByteArray
structure Mg where
  kind : Int
  node : Int
  inc : Int
  ses : Int
  tx : Int
  seq : Int
  key : ByteArray
  lo : Int
  hi : Int
  has : Bool
  data : ByteArray
  hit : Bool
  err : Int
  n : Int
  W : List Wt
  K : List ByteArray
def emp : ByteArray := ⟨#[]⟩
def Wt.zero : Wt := ⟨emp, false, emp⟩
def Mg.zero : Mg := ⟨0, 0, 0, 0, 0, 0, emp, 0, 0, false, emp, false, 0, 0, [], []⟩
section
variable {σ : Type} (o : Ops σ)
def valueT (h : Bool) (d : ByteArray) : M σ (Bool × ByteArray) := (o.bool h).bind fun h' => if h' then (o.text d 256).bind fun d' => .ret (h', d') else .ret (h', d)
def pinT (lo hi : Int) : M σ (Int × Int) := (o.num lo).bind fun lo' => (o.num hi).bind fun hi' => .ret (lo', hi')
def elemT (x : Wt) : M σ Wt := (o.text x.k 32).bind fun k => (valueT o x.h x.d).bind fun v => .ret ⟨k, v.1, v.2⟩
def keyT (x : ByteArray) : M σ ByteArray := o.text x 32
def mapT {α : Type} (one : α → M σ α) : List α → M σ (List α)
  | [] => .ret []
  | x :: l => (one x).bind fun y => (mapT one l).bind fun r => .ret (y :: r)
def listT {α : Type} (one : α → M σ α) (z : α) (L : List α) : M σ (List α) :=
  (o.num L.length).bind fun n => if n < 1 ∨ 8 < n then .fail 11 else mapT one (if L.length = 0 then List.replicate n.toNat z else L)
def askedT (m : Mg) : M σ Mg := (o.num m.tx).bind fun tx => (o.num m.seq).bind fun seq => .ret { m with tx := tx, seq := seq }
/-- value and pin of a message. -/
def fullT (m : Mg) : M σ Mg := (valueT o m.has m.data).bind fun v => (pinT o m.lo m.hi).bind fun p => .ret { m with has := v.1, data := v.2, lo := p.1, hi := p.2 }
def toldT (m : Mg) : M σ Mg := (o.num m.node).bind fun nd =>
  let m1 := { m with node := nd }
  if m.kind = 7 then (o.text m.key 32).bind fun k => (fullT o { m1 with key := k }).bind fun m2 => (o.num m.n).bind fun n => .ret { m2 with n := n }
  else if m.kind = 8 then (o.num m.n).bind fun n => (listT o (keyT o) emp m.K).bind fun K => .ret { m1 with n := n, K := K }
  else if m.kind = 10 then (o.num m.inc).bind fun i => .ret { m1 with inc := i }
  else if m.kind = 11 then (o.num m.inc).bind fun i => (o.num m.n).bind fun n => .ret { m1 with inc := i, n := n }
  else if m.kind = 9 then (o.num m.n).bind fun n => .ret { m1 with n := n }
  else .ret m1
def keyedT (m : Mg) : M σ Mg := (askedT o m).bind fun m1 => (o.text m.key 32).bind fun k => (pinT o m.lo m.hi).bind fun p => .ret { m1 with key := k, lo := p.1, hi := p.2 }
def fieldsT (m : Mg) : M σ Mg :=
  if m.kind = 1 then (o.num m.ses).bind fun ses => (o.num m.seq).bind fun seq => (listT o (elemT o) Wt.zero m.W).bind fun W => .ret { m with ses := ses, seq := seq, W := W }
  else if m.kind = 2 then (o.num m.ses).bind fun ses => (o.num m.seq).bind fun seq => (o.num m.err).bind fun err => (o.num m.n).bind fun n => .ret { m with ses := ses, seq := seq, err := err, n := n }
  else if m.kind = 3 then (o.num m.node).bind fun nd => keyedT o { m with node := nd }
  else if m.kind = 5 then keyedT o m
  else if m.kind = 4 then (askedT o m).bind fun m1 => (o.bool m.hit).bind fun h => if h then fullT o { m1 with hit := h } else .ret { m1 with hit := h }
  else if m.kind = 6 then (askedT o m).bind fun m1 => (o.num m.err).bind fun er => if er = 0 then fullT o { m1 with err := er } else .ret { m1 with err := er }
  else toldT o m
end
/-- The two lanes. -/
def outO : Ops (List UInt8) := ⟨fun n L => (.ok n, L ++ num (zz n)), fun b L => (.ok b, L ++ bol b), fun t _ L => (.ok t, L ++ txt t.data.toList)⟩
def ofR {α β : Type} (f : α → β) (r : α × St) : Except Nat β × Nat := (if r.2.e = 0 then .ok (f r.1) else .error r.2.e, r.2.at_)
def inO (s : List UInt8) : Ops Nat := ⟨fun _ p => ofR id (rNum s ⟨p, 0⟩), fun _ p => ofR id (rBool s ⟨p, 0⟩), fun _ most p => ofR (fun l => ⟨l.toArray⟩) (rText s most ⟨p, 0⟩)⟩

section
variable {σ : Type} {α β : Type}
theorem bind_ok {p : M σ α} {q : α → M σ β} {s : σ} {a : α} (h : (p s).1 = .ok a) : p.bind q s = q a (p s).2 := by
  unfold M.bind
  generalize p s = r at h ⊢
  obtain ⟨x, s'⟩ := r
  simp only at h
  subst h
  rfl
theorem bind_error {p : M σ α} {q : α → M σ β} {s : σ} {e : Nat} (h : (p s).1 = .error e) : p.bind q s = (.error e, (p s).2) := by
  unfold M.bind
  generalize p s = r at h ⊢
  obtain ⟨x, s'⟩ := r
  simp only at h
  subst h
  rfl
theorem ret_bind (a : α) (q : α → M σ β) : (M.ret a).bind q = q a := rfl
theorem bind_assoc {γ : Type} (p : M σ α) (q : α → M σ β) (r : β → M σ γ) : (p.bind q).bind r = p.bind fun a => (q a).bind r := by
  funext s
  cases h : (p s).1 with
  | error e => rw [bind_error h, bind_error (p := p.bind q) (e := e) (by rw [bind_error h]), bind_error h]
  | ok a =>
    rw [bind_ok h]
    unfold M.bind
    generalize p s = r0 at h ⊢
    obtain ⟨x, s'⟩ := r0
    simp only at h
    subst h
    rfl
theorem fit_step {fit : σ → Prop} {p : M σ α} {q : α → M σ β} {s : σ} {a : α} (h : fit (p.bind q s).2) (hr : (p s).1 = .ok a) : fit (q a (p s).2).2 := by rw [bind_ok hr] at h; exact h
/-- What fits behind a step has fitted ahead of it. -/
def Mono (fit : σ → Prop) (p : M σ α) : Prop := ∀ s, fit (p s).2 → fit s
theorem mono_ret {fit : σ → Prop} (a : α) : Mono fit (M.ret a : M σ α) := fun _ h => h
theorem mono_fail {fit : σ → Prop} (e : Nat) : Mono fit (M.fail e : M σ α) := fun _ h => h
theorem fit_left {fit : σ → Prop} {p : M σ α} {q : α → M σ β} (hq : ∀ a, Mono fit (q a)) {s : σ} (h : fit (p.bind q s).2) : fit (p s).2 := by
  cases e : (p s).1 with
  | error _ => rw [bind_error e] at h; exact h
  | ok a => rw [bind_ok e] at h; exact hq a _ h
theorem mono_bind {fit : σ → Prop} {p : M σ α} {q : α → M σ β} (hp : Mono fit p) (hq : ∀ a, Mono fit (q a)) : Mono fit (p.bind q) := fun s h => hp s (fit_left hq h)
end

section
variable {σ : Type} (o : Ops σ) (m : Mg)
theorem told_7 (h : m.kind = 7) : toldT o m = (o.num m.node).bind fun nd => (o.text m.key 32).bind fun k => (valueT o m.has m.data).bind fun v => (pinT o m.lo m.hi).bind fun p => (o.num m.n).bind fun n => .ret { m with node := nd, key := k, has := v.1, data := v.2, lo := p.1, hi := p.2, n := n } := by
  unfold toldT
  congr 1; funext nd
  dsimp only
  rw [if_pos h]
  congr 1; funext k
  unfold fullT
  rw [bind_assoc]
  congr 1; funext v
  rw [bind_assoc]
  rfl
theorem told_8 (h : m.kind = 8) : toldT o m = (o.num m.node).bind fun nd => (o.num m.n).bind fun n => (listT o (keyT o) emp m.K).bind fun K => .ret { m with node := nd, n := n, K := K } := by
  unfold toldT
  congr 1; funext nd
  dsimp only
  rw [if_neg (by omega), if_pos h]
theorem told_9 (h : m.kind = 9) : toldT o m = (o.num m.node).bind fun nd => (o.num m.n).bind fun n => .ret { m with node := nd, n := n } := by
  unfold toldT
  congr 1; funext nd
  dsimp only
  rw [if_neg (by omega), if_neg (by omega), if_neg (by omega), if_neg (by omega), if_pos h]
theorem told_10 (h : m.kind = 10) : toldT o m = (o.num m.node).bind fun nd => (o.num m.inc).bind fun i => .ret { m with node := nd, inc := i } := by
  unfold toldT
  congr 1; funext nd
  dsimp only
  rw [if_neg (by omega), if_neg (by omega), if_pos h]
theorem told_11 (h : m.kind = 11) : toldT o m = (o.num m.node).bind fun nd => (o.num m.inc).bind fun i => (o.num m.n).bind fun n => .ret { m with node := nd, inc := i, n := n } := by
  unfold toldT
  congr 1; funext nd
  dsimp only
  rw [if_neg (by omega), if_neg (by omega), if_neg (by omega), if_pos h]
theorem told_0 (h7 : ¬ m.kind = 7) (h8 : ¬ m.kind = 8) (h9 : ¬ m.kind = 9) (h10 : ¬ m.kind = 10) (h11 : ¬ m.kind = 11) : toldT o m = (o.num m.node).bind fun nd => .ret { m with node := nd } := by
  unfold toldT
  congr 1; funext nd
  dsimp only
  rw [if_neg h7, if_neg h8, if_neg h10, if_neg h11, if_neg h9]
theorem fields_1 (h : m.kind = 1) : fieldsT o m = (o.num m.ses).bind fun ses => (o.num m.seq).bind fun seq => (listT o (elemT o) Wt.zero m.W).bind fun W => .ret { m with ses := ses, seq := seq, W := W } := by
  unfold fieldsT; rw [if_pos h]
theorem fields_2 (h : m.kind = 2) : fieldsT o m = (o.num m.ses).bind fun ses => (o.num m.seq).bind fun seq => (o.num m.err).bind fun err => (o.num m.n).bind fun n => .ret { m with ses := ses, seq := seq, err := err, n := n } := by
  unfold fieldsT; rw [if_neg (by omega), if_pos h]
theorem fields_3 (h : m.kind = 3) : fieldsT o m = (o.num m.node).bind fun nd => (askedT o { m with node := nd }).bind fun m1 => (o.text m.key 32).bind fun k => (pinT o m.lo m.hi).bind fun p => .ret { m1 with key := k, lo := p.1, hi := p.2 } := by
  unfold fieldsT; rw [if_neg (by omega), if_neg (by omega), if_pos h]; rfl
theorem fields_5 (h : m.kind = 5) : fieldsT o m = (askedT o m).bind fun m1 => (o.text m.key 32).bind fun k => (pinT o m.lo m.hi).bind fun p => .ret { m1 with key := k, lo := p.1, hi := p.2 } := by
  unfold fieldsT; rw [if_neg (by omega), if_neg (by omega), if_neg (by omega), if_pos h]; rfl
theorem fields_4 (h : m.kind = 4) : fieldsT o m = (askedT o m).bind fun m1 => (o.bool m.hit).bind fun h => if h then (valueT o m1.has m1.data).bind fun v => (pinT o m1.lo m1.hi).bind fun p => .ret { m1 with hit := h, has := v.1, data := v.2, lo := p.1, hi := p.2 } else .ret { m1 with hit := h } := by
  unfold fieldsT; rw [if_neg (by omega), if_neg (by omega), if_neg (by omega), if_neg (by omega), if_pos h]; rfl
theorem fields_6 (h : m.kind = 6) : fieldsT o m = (askedT o m).bind fun m1 => (o.num m.err).bind fun er => if er = 0 then (valueT o m1.has m1.data).bind fun v => (pinT o m1.lo m1.hi).bind fun p => .ret { m1 with err := er, has := v.1, data := v.2, lo := p.1, hi := p.2 } else .ret { m1 with err := er } := by
  unfold fieldsT; rw [if_neg (by omega), if_neg (by omega), if_neg (by omega), if_neg (by omega), if_neg (by omega), if_pos h]; rfl
theorem fields_0 (h1 : ¬ m.kind = 1) (h2 : ¬ m.kind = 2) (h3 : ¬ m.kind = 3) (h4 : ¬ m.kind = 4) (h5 : ¬ m.kind = 5) (h6 : ¬ m.kind = 6) : fieldsT o m = toldT o m := by
  unfold fieldsT; rw [if_neg h1, if_neg h2, if_neg h3, if_neg h5, if_neg h4, if_neg h6]
end
end Go.Kc

namespace Go.Proofs.Ytiklpifaaogcpaa
open Go.RowKit Go.Cl Go.Wr Go.Kc
set_option maxRecDepth 100000
set_option linter.unusedVariables false
set_option linter.unusedSimpArgs false


theorem set_same {cs : Array Value} {k : Nat} {v : Value} (h : cs[k]? = some v) : cs.setIfInBounds k v = cs := by
  apply Array.ext_getElem?
  intro i
  rw [Array.getElem?_setIfInBounds]
  split
  · subst_vars
    obtain ⟨hk, e⟩ := Array.getElem?_eq_some_iff.1 h
    rw [if_pos hk, h]
  · rfl
/-- What a step of a lane leaves. -/
def LPost {σ α : Type} (LS : (Nat → Nat) → World → σ → Prop) (S : List Nat) (col : Nat → Nat) (w : World) (r : Except Nat α × σ) (J : α → (Nat → Nat) → World → Prop) (E : (Nat → Nat) → World → Prop) : Ending → World → Prop := fun e w' =>
  ∃ col', Mv S col w col' w' ∧ ((∃ a, r.1 = .ok a ∧ e = .returned (.tuple #[]) ∧ LS col' w' r.2 ∧ J a col' w') ∨ (∃ er, r.1 = .error er ∧ er ≠ 0 ∧ e = .panicked [{ v := .iface 79 (.agg #[.int .i64 (er : Int)]), recovered := false }] ∧ E col' w'))
/-- A block is there still, as large as it was. -/
def Kep (x i T n : Nat) (c : Nat → Nat) (w' : World) : Prop := ∃ cs', Blk c i w' x cs' T ∧ cs'.size = n
structure Lane (σ : Type) where
  o : Ops σ
  lt : TypeId
  lv : Value
  recv : Value
  fnum : FuncId
  ftext : FuncId
  fbool : FuncId
  LS : (Nat → Nat) → World → σ → Prop
  fit : σ → Prop
  kept : ∀ {S : List Nat} {col col' : Nat → Nat} {w w' : World} {s : σ}, LS col w s → Mv S col w col' w' → 1 ∉ S → LS col' w' s
  mnum : ∀ w, (method 261 lt lv "vouch/codec.num").run Try.prog w = .ok (fnum, recv) w
  mtext : ∀ w, (method 261 lt lv "vouch/codec.text").run Try.prog w = .ok (ftext, recv) w
  mbool : ∀ w, (method 261 lt lv "vouch/codec.truth").run Try.prog w = .ok (fbool, recv) w
  nnum : ∀ w, (nilAhead 261 lt lv "vouch/codec.num").run Try.prog w = .ok (some false) w
  ntext : ∀ w, (nilAhead 261 lt lv "vouch/codec.text").run Try.prog w = .ok (some false) w
  nbool : ∀ w, (nilAhead 261 lt lv "vouch/codec.truth").run Try.prog w = .ok (some false) w
  enum : ∀ a w, (callFunc fnum a).run Try.prog w = .ok (.enter fnum a) w
  etext : ∀ a w, (callFunc ftext a).run Try.prog w = .ok (.enter ftext a) w
  ebool : ∀ a w, (callFunc fbool a).run Try.prog w = .ok (.enter fbool a) w
  fit_num : ∀ n, Mono fit (o.num n)
  fit_text : ∀ t m, Mono fit (o.text t m)
  fit_bool : ∀ b, Mono fit (o.bool b)
  cnum : ∀ (col : Nat → Nat) (w : World) (s : σ) (i x k : Nat) (cs : Array Value) (T : TypeId) (n : Int), LS col w s → Blk col i w x cs T → i ≠ 1 → cs[k]? = some (.int .i64 n) → -9223372036854775808 ≤ n → n ≤ 9223372036854775807 →
    fit (o.num n s).2 → Calls Try.prog fnum #[recv, .pointer (some ⟨x, k, none⟩)] w (LPost LS [1, i] col w (o.num n s) (fun n' col' w' => Blk col' i w' x (cs.setIfInBounds k (.int .i64 n')) T) (Kep x i T cs.size))
  ctext : ∀ (col : Nat → Nat) (w : World) (s : σ) (i x k : Nat) (cs : Array Value) (T : TypeId) (t : ByteArray) (m : Int), LS col w s → Blk col i w x cs T → i ≠ 1 → cs[k]? = some (.string t) →
    fit (o.text t m s).2 → Calls Try.prog ftext #[recv, .pointer (some ⟨x, k, none⟩), .int .i64 m] w (LPost LS [1, i] col w (o.text t m s) (fun t' col' w' => Blk col' i w' x (cs.setIfInBounds k (.string t')) T) (Kep x i T cs.size))
  cbool : ∀ (col : Nat → Nat) (w : World) (s : σ) (i x k : Nat) (cs : Array Value) (T : TypeId) (b : Bool), LS col w s → Blk col i w x cs T → i ≠ 1 → cs[k]? = some (.bool b) →
    fit (o.bool b s).2 → Calls Try.prog fbool #[recv, .pointer (some ⟨x, k, none⟩)] w (LPost LS [1, i] col w (o.bool b s) (fun b' col' w' => Blk col' i w' x (cs.setIfInBounds k (.bool b')) T) (Kep x i T cs.size))

end Go.Proofs.Ytiklpifaaogcpaa

namespace Go.Proofs.Ytiklpifaaogcpaa
open Go.RowKit Go.Cl Go.Wr Go.Kc
set_option maxRecDepth 100000
set_option linter.unusedVariables false
set_option linter.unusedSimpArgs false


theorem out_num (b : Nat) (col : Nat → Nat) (w : World) (s : List UInt8) (i x k : Nat) (cs : Array Value) (T : TypeId) (n : Int) (h : Wri col 1 w b s) (hB : Blk col i w x cs T) (hi : i ≠ 1) (hk : cs[k]? = some (.int .i64 n)) (n1 : -9223372036854775808 ≤ n) (n2 : n ≤ 9223372036854775807) (hf : (outO.num n s).2.length ≤ 140737488355328) :
    Calls Try.prog 92 #[.pointer (some ⟨b, 0, none⟩), .pointer (some ⟨x, k, none⟩)] w (LPost (fun c W L => Wri c 1 W b L) [1, i] col w (outO.num n s) (fun n' col' w' => Blk col' i w' x (cs.setIfInBounds k (.int .i64 n')) T) (Kep x i T cs.size)) := by
  have hc := hp_cell hB.hp k
  rw [hk] at hc
  have HF : Hid (∀ W, Below w.heap.size w W → Calls Try.prog 95 #[.pointer (some ⟨b, 0, none⟩), .int .i64 n] W fun e w' => e = .returned (.tuple #[]) ∧ Wri (paint (paint col w 1) W 1) 1 w' b (s ++ num (zz n)) ∧ Ch (paint col w 1) 1 W w') := Lib.hid fun W hW => wr_num _ 1 W b s (h.painted hW) n n1 n2 (by have := hf; simp only [outO, List.length_append] at this; exact this)
  go_enter Try.func92, Try.ntmps92
  go_wp2
  refine Ph.region_at (by kernel_rfl) ?_
  refine Ph.at_quiet 6 (by kernel_rfl) ?_
  simp only [List.take_succ_cons, List.take_zero, List.drop_succ_cons, List.drop_zero]
  repeat ((first | (apply Ph.wpPh_g; (focus (intro w1 hS0; have hc1 := (cell_below (below_call (below_drew (Below.refl _ _)) hS0) hc); go_simp; first | exact rfl | exact ⟨rfl, Below.refl _ _⟩)))); simp only [Act.put, List.setIfInBounds_toArray, List.set_cons_zero, List.set_cons_succ])
  refine Ph.wpPh_nil ?_; intro w2 hS2
  have hb2 := below_call (below_drew (Below.refl _ _)) hS2
  refine Ph.at_op rfl (by kernel_rfl) ?_
  go_wp2_with fail
  refine (HF.out w2 hb2).mono ?_
  rintro e w3 ⟨rfl, hW3, hC3⟩
  go_wp2
  refine Ph.at_end (by simp) ?_
  go_wp2
  refine bodyPost_end (results_none rfl _ _ _) rfl ?_
  have hC := (Ch.of_below hb2).trans hC3
  rw [paint_paint hb2.size] at hW3
  refine ⟨_, hC.mv' (by simp), .inl ⟨_, rfl, rfl, hW3, ?_⟩⟩
  show Blk _ _ _ _ (cs.setIfInBounds k (.int .i64 n)) _
  rw [set_same hk]
  exact hB.kept hC.mv (by simpa using hi)

theorem out_text (b : Nat) (col : Nat → Nat) (w : World) (s : List UInt8) (i x k : Nat) (cs : Array Value) (T : TypeId) (t : ByteArray) (m : Int) (h : Wri col 1 w b s) (hB : Blk col i w x cs T) (hi : i ≠ 1) (hk : cs[k]? = some (.string t)) (hf : (outO.text t m s).2.length ≤ 140737488355328) :
    Calls Try.prog 93 #[.pointer (some ⟨b, 0, none⟩), .pointer (some ⟨x, k, none⟩), .int .i64 m] w (LPost (fun c W L => Wri c 1 W b L) [1, i] col w (outO.text t m s) (fun n' col' w' => Blk col' i w' x (cs.setIfInBounds k (.string n')) T) (Kep x i T cs.size)) := by
  have hc := hp_cell hB.hp k
  rw [hk] at hc
  have HF : Hid (∀ W, Below w.heap.size w W → Calls Try.prog 96 #[.pointer (some ⟨b, 0, none⟩), .string t] W fun e w' => e = .returned (.tuple #[]) ∧ Wri (paint (paint col w 1) W 1) 1 w' b (s ++ txt t.data.toList) ∧ Ch (paint col w 1) 1 W w') := Lib.hid fun W hW => wr_text _ 1 W b s (h.painted hW) t (by have := hf; unfold maxLen; simp only [outO, txt, List.length_append] at this; have e : t.data.toList.length = t.size := (by simp); omega) (by have := hf; simp only [outO, List.length_append] at this; exact this)
  go_enter Try.func93, Try.ntmps93
  go_wp2
  refine Ph.region_at (by kernel_rfl) ?_
  refine Ph.at_quiet 6 (by kernel_rfl) ?_
  simp only [List.take_succ_cons, List.take_zero, List.drop_succ_cons, List.drop_zero]
  repeat ((first | (apply Ph.wpPh_g; (focus (intro w1 hS0; have hc1 := (cell_below (below_call (below_drew (Below.refl _ _)) hS0) hc); go_simp; first | exact rfl | exact ⟨rfl, Below.refl _ _⟩)))); simp only [Act.put, List.setIfInBounds_toArray, List.set_cons_zero, List.set_cons_succ])
  refine Ph.wpPh_nil ?_; intro w2 hS2
  have hb2 := below_call (below_drew (Below.refl _ _)) hS2
  refine Ph.at_op rfl (by kernel_rfl) ?_
  go_wp2_with fail
  refine (HF.out w2 hb2).mono ?_
  rintro e w3 ⟨rfl, hW3, hC3⟩
  go_wp2
  refine Ph.at_end (by simp) ?_
  go_wp2
  refine bodyPost_end (results_none rfl _ _ _) rfl ?_
  have hC := (Ch.of_below hb2).trans hC3
  rw [paint_paint hb2.size] at hW3
  refine ⟨_, hC.mv' (by simp), .inl ⟨_, rfl, rfl, hW3, ?_⟩⟩
  show Blk _ _ _ _ (cs.setIfInBounds k (.string t)) _
  rw [set_same hk]
  exact hB.kept hC.mv (by simpa using hi)

theorem out_bool (b : Nat) (col : Nat → Nat) (w : World) (s : List UInt8) (i x k : Nat) (cs : Array Value) (T : TypeId) (y : Bool) (h : Wri col 1 w b s) (hB : Blk col i w x cs T) (hi : i ≠ 1) (hk : cs[k]? = some (.bool y)) (hf : (outO.bool y s).2.length ≤ 140737488355328) :
    Calls Try.prog 94 #[.pointer (some ⟨b, 0, none⟩), .pointer (some ⟨x, k, none⟩)] w (LPost (fun c W L => Wri c 1 W b L) [1, i] col w (outO.bool y s) (fun n' col' w' => Blk col' i w' x (cs.setIfInBounds k (.bool n')) T) (Kep x i T cs.size)) := by
  have hc := hp_cell hB.hp k
  rw [hk] at hc
  have HF : Hid (∀ W, Below w.heap.size w W → Calls Try.prog 97 #[.pointer (some ⟨b, 0, none⟩), .bool y] W fun e w' => e = .returned (.tuple #[]) ∧ Wri (paint (paint col w 1) W 1) 1 w' b (s ++ bol y) ∧ Ch (paint col w 1) 1 W w') := Lib.hid fun W hW => wr_bool _ 1 W b s (h.painted hW) y (by have := hf; simp only [outO, List.length_append] at this; have e : (bol y).length = 1 := (by cases y <;> rfl); omega)
  go_enter Try.func94, Try.ntmps94
  go_wp2
  refine Ph.region_at (by kernel_rfl) ?_
  refine Ph.at_quiet 6 (by kernel_rfl) ?_
  simp only [List.take_succ_cons, List.take_zero, List.drop_succ_cons, List.drop_zero]
  repeat ((first | (apply Ph.wpPh_g; (focus (intro w1 hS0; have hc1 := (cell_below (below_call (below_drew (Below.refl _ _)) hS0) hc); go_simp; first | exact rfl | exact ⟨rfl, Below.refl _ _⟩)))); simp only [Act.put, List.setIfInBounds_toArray, List.set_cons_zero, List.set_cons_succ])
  refine Ph.wpPh_nil ?_; intro w2 hS2
  have hb2 := below_call (below_drew (Below.refl _ _)) hS2
  refine Ph.at_op rfl (by kernel_rfl) ?_
  go_wp2_with fail
  refine (HF.out w2 hb2).mono ?_
  rintro e w3 ⟨rfl, hW3, hC3⟩
  go_wp2
  refine Ph.at_end (by simp) ?_
  go_wp2
  refine bodyPost_end (results_none rfl _ _ _) rfl ?_
  have hC := (Ch.of_below hb2).trans hC3
  rw [paint_paint hb2.size] at hW3
  refine ⟨_, hC.mv' (by simp), .inl ⟨_, rfl, rfl, hW3, ?_⟩⟩
  show Blk _ _ _ _ (cs.setIfInBounds k (.bool y)) _
  rw [set_same hk]
  exact hB.kept hC.mv (by simpa using hi)

end Go.Proofs.Ytiklpifaaogcpaa

namespace Go.Proofs.Ytiklpifaaogcpaa
open Go.RowKit Go.Cl Go.Wr Go.Kc
set_option maxRecDepth 100000
set_option linter.unusedVariables false
set_option linter.unusedSimpArgs false


theorem mv_set {S : List Nat} {col col' : Nat → Nat} {w w1 : World} (h : Mv S col w col' w1) {p : Addr} (hp : col' p.block ∈ S) (u : Value) : Mv S col w col' (w1.setCell p u) :=
  ⟨h.os, h.tape, h.output, by have := h.size; simpa [World.setCell] using this, fun k hk hc => by
    rw [heap_set w1 p u (fun e => hc (by rw [← h.col k hk, e]; exact hp))]; exact h.block k hk hc, h.col⟩
theorem in_look (b : Nat) (col : Nat → Nat) (w : World) (s : ByteArray) (t : St) (h : Rds 126 col 1 w b s t) :
    Calls Try.prog 100 #[.agg #[.pointer (some ⟨b, 0, none⟩)]] w fun e w' => Below w.heap.size w w' ∧ (t.e = 0 → e = .returned (.tuple #[])) ∧ (t.e ≠ 0 → e = .panicked [{ v := .iface 79 (.agg #[.int .i64 (t.e : Int)]), recovered := false }]) := by
  have hb : Below w.heap.size w (w.alloc (.cells #[.pointer (some ⟨b, 0, none⟩)] 84)) := below_alloc (Below.refl _ _) _
  have HE := Lib.hid (rd_err col 1 _ b s t (h.below hb))
  have HB := Lib.hid hb; clear hb h
  generalize t.e = er at *
  by_cases h0 : er = 0
  · subst h0
    go_enter Try.func100, Try.ntmps100
    go_wp2_with (refine HE.out.mono ?_; rintro e w1 ⟨rfl, rfl⟩)
    refine bodyPost_end (results_none rfl _ _ _) rfl ?_
    exact ⟨HB.out, fun _ => rfl, fun h => absurd rfl h⟩
  · have b1 : ((er : Int) != 0) = true := by simp; omega
    have H0 := Lib.hid h0; clear h0
    go_enter Try.func100, Try.ntmps100
    go_wp2_with (refine HE.out.mono ?_; rintro e w1 ⟨rfl, rfl⟩)
    exact ⟨rfl, HB.out, fun h => absurd h H0.out, fun _ => rfl⟩

theorem in_num (b : Nat) (sb : ByteArray) (col : Nat → Nat) (w : World) (p : Nat) (i x k : Nat) (cs : Array Value) (T : TypeId) (n : Int) (h : Rds 126 col 1 w b sb ⟨p, 0⟩) (hB : Blk col i w x cs T) (hi : i ≠ 1) (hk : cs[k]? = some (.int .i64 n)) :
    Calls Try.prog 101 #[.agg #[.pointer (some ⟨b, 0, none⟩)], .pointer (some ⟨x, k, none⟩)] w (LPost (fun c W p => Rds 126 c 1 W b sb ⟨p, 0⟩) [1, i] col w ((inO sb.data.toList).num n p) (fun n' col' w' => Blk col' i w' x (cs.setIfInBounds k (.int .i64 n')) T) (Kep x i T cs.size)) := by
  have hb : Below w.heap.size w (w.alloc (.cells #[.pointer (some ⟨b, 0, none⟩)] 84)) := below_alloc (Below.refl _ _) _
  have hm0 : Mv [1, i] col w (paint col w 4) (w.alloc (.cells #[.pointer (some ⟨b, 0, none⟩)] 84)) := Mv.new hb 4
  have HC := Lib.hid (rd_num (paint col w 4) 1 _ b sb ⟨p, 0⟩ (h.kept (Mv.new (S := []) hb 4) (by simp)))
  have hB1 : Blk (paint col w 4) i _ x cs T := hB.kept (Mv.new (S := []) hb 4) (by simp)
  have hn1 : Blk (paint col w 4) 4 _ w.heap.size #[.pointer (some ⟨b, 0, none⟩)] 84 := ⟨hp_alloc_new w (.cells #[.pointer (some ⟨b, 0, none⟩)] 84), paint_new (Nat.le_refl _)⟩
  have hxne : x ≠ w.heap.size := by have := hp_lt hB.hp; omega
  have hg : ((inO sb.data.toList).num n p) = ofR id (rNum sb.data.toList ⟨p, 0⟩) := rfl
  rw [hg]
  clear hg hb h hB
  generalize hW0 : w.alloc (.cells #[.pointer (some ⟨b, 0, none⟩)] 84) = W0 at HC hm0 hB1 hn1
  generalize (rNum sb.data.toList ⟨p, 0⟩) = R at *
  have HK := Lib.hid hk; clear hk
  have HX := Lib.hid hxne; clear hxne
  have HI := Lib.hid hi; clear hi
  generalize hH : w.heap.size = z0 at hn1 HX
  go_enter Try.func101, Try.ntmps101
  go_upto_region 1 with fail
  have c0 := hp_cell hn1.hp
  go_wp2_with fail
  refine HC.out.mono ?_
  rintro e w1 ⟨rfl, hR1, hC1⟩
  have hm1 := hm0.trans (hC1.mv' (by simp))
  have hB2 := hB1.kept hC1.mv (by simpa using HI.out)
  have hn2 := hn1.kept hC1.mv (by decide)
  generalize paint (paint col w 4) W0 1 = col1 at hR1 hm1 hB2 hn2
  have hk2 := hp_cell hB2.hp k
  rw [HK.out] at hk2
  have hf2 := hp_free hB2.hp k
  have hm2 := mv_set hm1 (p := ⟨x, k, none⟩) (by rw [hB2.col]; simp) (.int .i64 R.1)
  have hB3 : Blk col1 i (w1.setCell ⟨x, k, none⟩ (.int .i64 R.1)) x (cs.setIfInBounds k (.int .i64 R.1)) T := ⟨hp_set hB2.hp _, hB2.col⟩
  have hn3 : Blk col1 4 (w1.setCell ⟨x, k, none⟩ (.int .i64 R.1)) z0 #[.pointer (some ⟨b, 0, none⟩)] 84 := ⟨hp_set_ne hn2.hp (p := ⟨x, k, none⟩) (Ne.symm HX.out) (.int .i64 R.1), hn2.col⟩
  have hR3 : Rds 126 col1 1 (w1.setCell ⟨x, k, none⟩ (.int .i64 R.1)) b sb R.2 := ⟨⟨hp_set_ne hR1.blk.hp (p := ⟨x, k, none⟩) (by have h1 := hR1.blk.col; have h2 := hB2.col; intro e; simp only at e; rw [e] at h1; exact HI.out (by rw [← h2]; exact h1)) (.int .i64 R.1), hR1.blk.col⟩, hR1.ok, hR1.len⟩
  clear c0 hn2 hB2 hm1 hB1 hn1 hm0 hR1
  generalize hW2 : w1.setCell ⟨x, k, none⟩ (.int .i64 R.1) = W2 at hm2 hB3 hn3 hR3
  have c3 := hp_cell hn3.hp
  go_wp2_with fail
  refine (in_look b col1 W2 sb _ hR3).mono ?_
  rintro e w3 ⟨hb3, e0, e1⟩
  have hm3 := hm2.after_below hb3
  by_cases h0 : R.2.e = 0
  · have e0' := e0 h0
    subst e0'
    clear e0 e1
    go_wp2
    refine bodyPost_end (results_none rfl _ _ _) rfl ?_
    have hRd : Rds 126 col1 1 w3 b sb ⟨R.2.at_, 0⟩ := by
      have := hR3.kept (Mv.of_below (S := []) (col := col1) hb3) (by simp)
      rwa [show R.2 = ⟨R.2.at_, 0⟩ from by rw [← h0]] at this
    exact ⟨col1, hm3, .inl ⟨id R.1, by unfold ofR; rw [if_pos h0], rfl, hRd, hB3.kept (Mv.of_below (S := []) hb3) (by simp)⟩⟩
  · have e1' := e1 h0
    subst e1'
    clear e0 e1
    exact ⟨rfl, col1, hm3, .inr ⟨R.2.e, by unfold ofR; rw [if_neg h0], h0, rfl, _, hB3.kept (Mv.of_below (S := []) hb3) (by simp), by simp⟩⟩

theorem in_text (b : Nat) (sb : ByteArray) (col : Nat → Nat) (w : World) (p : Nat) (i x k : Nat) (cs : Array Value) (T : TypeId) (t : ByteArray) (m : Int) (h : Rds 126 col 1 w b sb ⟨p, 0⟩) (hB : Blk col i w x cs T) (hi : i ≠ 1) (hk : cs[k]? = some (.string t)) :
    Calls Try.prog 102 #[.agg #[.pointer (some ⟨b, 0, none⟩)], .pointer (some ⟨x, k, none⟩), .int .i64 m] w (LPost (fun c W p => Rds 126 c 1 W b sb ⟨p, 0⟩) [1, i] col w ((inO sb.data.toList).text t m p) (fun n' col' w' => Blk col' i w' x (cs.setIfInBounds k (.string n')) T) (Kep x i T cs.size)) := by
  have hb : Below w.heap.size w (w.alloc (.cells #[.pointer (some ⟨b, 0, none⟩)] 84)) := below_alloc (Below.refl _ _) _
  have hm0 : Mv [1, i] col w (paint col w 4) (w.alloc (.cells #[.pointer (some ⟨b, 0, none⟩)] 84)) := Mv.new hb 4
  have HC := Lib.hid (rd_text (paint col w 4) 1 _ b sb ⟨p, 0⟩ (h.kept (Mv.new (S := []) hb 4) (by simp)) m)
  have hB1 : Blk (paint col w 4) i _ x cs T := hB.kept (Mv.new (S := []) hb 4) (by simp)
  have hn1 : Blk (paint col w 4) 4 _ w.heap.size #[.pointer (some ⟨b, 0, none⟩)] 84 := ⟨hp_alloc_new w (.cells #[.pointer (some ⟨b, 0, none⟩)] 84), paint_new (Nat.le_refl _)⟩
  have hxne : x ≠ w.heap.size := by have := hp_lt hB.hp; omega
  have hg : ((inO sb.data.toList).text t m p) = ofR (fun l => ⟨l.toArray⟩) (rText sb.data.toList m ⟨p, 0⟩) := rfl
  rw [hg]
  clear hg hb h hB
  generalize hW0 : w.alloc (.cells #[.pointer (some ⟨b, 0, none⟩)] 84) = W0 at HC hm0 hB1 hn1
  generalize (rText sb.data.toList m ⟨p, 0⟩) = R at *
  have HK := Lib.hid hk; clear hk
  have HX := Lib.hid hxne; clear hxne
  have HI := Lib.hid hi; clear hi
  generalize hH : w.heap.size = z0 at hn1 HX
  go_enter Try.func102, Try.ntmps102
  go_upto_region 1 with fail
  have c0 := hp_cell hn1.hp
  go_wp2_with fail
  refine HC.out.mono ?_
  rintro e w1 ⟨rfl, hR1, hC1⟩
  have hm1 := hm0.trans (hC1.mv' (by simp))
  have hB2 := hB1.kept hC1.mv (by simpa using HI.out)
  have hn2 := hn1.kept hC1.mv (by decide)
  generalize paint (paint col w 4) W0 1 = col1 at hR1 hm1 hB2 hn2
  have hk2 := hp_cell hB2.hp k
  rw [HK.out] at hk2
  have hf2 := hp_free hB2.hp k
  have hm2 := mv_set hm1 (p := ⟨x, k, none⟩) (by rw [hB2.col]; simp) (.string ⟨R.1.toArray⟩)
  have hB3 : Blk col1 i (w1.setCell ⟨x, k, none⟩ (.string ⟨R.1.toArray⟩)) x (cs.setIfInBounds k (.string ⟨R.1.toArray⟩)) T := ⟨hp_set hB2.hp _, hB2.col⟩
  have hn3 : Blk col1 4 (w1.setCell ⟨x, k, none⟩ (.string ⟨R.1.toArray⟩)) z0 #[.pointer (some ⟨b, 0, none⟩)] 84 := ⟨hp_set_ne hn2.hp (p := ⟨x, k, none⟩) (Ne.symm HX.out) (.string ⟨R.1.toArray⟩), hn2.col⟩
  have hR3 : Rds 126 col1 1 (w1.setCell ⟨x, k, none⟩ (.string ⟨R.1.toArray⟩)) b sb R.2 := ⟨⟨hp_set_ne hR1.blk.hp (p := ⟨x, k, none⟩) (by have h1 := hR1.blk.col; have h2 := hB2.col; intro e; simp only at e; rw [e] at h1; exact HI.out (by rw [← h2]; exact h1)) (.string ⟨R.1.toArray⟩), hR1.blk.col⟩, hR1.ok, hR1.len⟩
  clear c0 hn2 hB2 hm1 hB1 hn1 hm0 hR1
  generalize hW2 : w1.setCell ⟨x, k, none⟩ (.string ⟨R.1.toArray⟩) = W2 at hm2 hB3 hn3 hR3
  have c3 := hp_cell hn3.hp
  go_wp2_with fail
  refine (in_look b col1 W2 sb _ hR3).mono ?_
  rintro e w3 ⟨hb3, e0, e1⟩
  have hm3 := hm2.after_below hb3
  by_cases h0 : R.2.e = 0
  · have e0' := e0 h0
    subst e0'
    clear e0 e1
    go_wp2
    refine bodyPost_end (results_none rfl _ _ _) rfl ?_
    have hRd : Rds 126 col1 1 w3 b sb ⟨R.2.at_, 0⟩ := by
      have := hR3.kept (Mv.of_below (S := []) (col := col1) hb3) (by simp)
      rwa [show R.2 = ⟨R.2.at_, 0⟩ from by rw [← h0]] at this
    exact ⟨col1, hm3, .inl ⟨(fun l => ⟨l.toArray⟩) R.1, by unfold ofR; rw [if_pos h0], rfl, hRd, hB3.kept (Mv.of_below (S := []) hb3) (by simp)⟩⟩
  · have e1' := e1 h0
    subst e1'
    clear e0 e1
    exact ⟨rfl, col1, hm3, .inr ⟨R.2.e, by unfold ofR; rw [if_neg h0], h0, rfl, _, hB3.kept (Mv.of_below (S := []) hb3) (by simp), by simp⟩⟩

theorem in_bool (b : Nat) (sb : ByteArray) (col : Nat → Nat) (w : World) (p : Nat) (i x k : Nat) (cs : Array Value) (T : TypeId) (y : Bool) (h : Rds 126 col 1 w b sb ⟨p, 0⟩) (hB : Blk col i w x cs T) (hi : i ≠ 1) (hk : cs[k]? = some (.bool y)) :
    Calls Try.prog 103 #[.agg #[.pointer (some ⟨b, 0, none⟩)], .pointer (some ⟨x, k, none⟩)] w (LPost (fun c W p => Rds 126 c 1 W b sb ⟨p, 0⟩) [1, i] col w ((inO sb.data.toList).bool y p) (fun n' col' w' => Blk col' i w' x (cs.setIfInBounds k (.bool n')) T) (Kep x i T cs.size)) := by
  have hb : Below w.heap.size w (w.alloc (.cells #[.pointer (some ⟨b, 0, none⟩)] 84)) := below_alloc (Below.refl _ _) _
  have hm0 : Mv [1, i] col w (paint col w 4) (w.alloc (.cells #[.pointer (some ⟨b, 0, none⟩)] 84)) := Mv.new hb 4
  have HC := Lib.hid (rd_bool (paint col w 4) 1 _ b sb ⟨p, 0⟩ (h.kept (Mv.new (S := []) hb 4) (by simp)))
  have hB1 : Blk (paint col w 4) i _ x cs T := hB.kept (Mv.new (S := []) hb 4) (by simp)
  have hn1 : Blk (paint col w 4) 4 _ w.heap.size #[.pointer (some ⟨b, 0, none⟩)] 84 := ⟨hp_alloc_new w (.cells #[.pointer (some ⟨b, 0, none⟩)] 84), paint_new (Nat.le_refl _)⟩
  have hxne : x ≠ w.heap.size := by have := hp_lt hB.hp; omega
  have hg : ((inO sb.data.toList).bool y p) = ofR id (rBool sb.data.toList ⟨p, 0⟩) := rfl
  rw [hg]
  clear hg hb h hB
  generalize hW0 : w.alloc (.cells #[.pointer (some ⟨b, 0, none⟩)] 84) = W0 at HC hm0 hB1 hn1
  generalize (rBool sb.data.toList ⟨p, 0⟩) = R at *
  have HK := Lib.hid hk; clear hk
  have HX := Lib.hid hxne; clear hxne
  have HI := Lib.hid hi; clear hi
  generalize hH : w.heap.size = z0 at hn1 HX
  go_enter Try.func103, Try.ntmps103
  go_upto_region 1 with fail
  have c0 := hp_cell hn1.hp
  go_wp2_with fail
  refine HC.out.mono ?_
  rintro e w1 ⟨rfl, hR1, hC1⟩
  have hm1 := hm0.trans (hC1.mv' (by simp))
  have hB2 := hB1.kept hC1.mv (by simpa using HI.out)
  have hn2 := hn1.kept hC1.mv (by decide)
  generalize paint (paint col w 4) W0 1 = col1 at hR1 hm1 hB2 hn2
  have hk2 := hp_cell hB2.hp k
  rw [HK.out] at hk2
  have hf2 := hp_free hB2.hp k
  have hm2 := mv_set hm1 (p := ⟨x, k, none⟩) (by rw [hB2.col]; simp) (.bool R.1)
  have hB3 : Blk col1 i (w1.setCell ⟨x, k, none⟩ (.bool R.1)) x (cs.setIfInBounds k (.bool R.1)) T := ⟨hp_set hB2.hp _, hB2.col⟩
  have hn3 : Blk col1 4 (w1.setCell ⟨x, k, none⟩ (.bool R.1)) z0 #[.pointer (some ⟨b, 0, none⟩)] 84 := ⟨hp_set_ne hn2.hp (p := ⟨x, k, none⟩) (Ne.symm HX.out) (.bool R.1), hn2.col⟩
  have hR3 : Rds 126 col1 1 (w1.setCell ⟨x, k, none⟩ (.bool R.1)) b sb R.2 := ⟨⟨hp_set_ne hR1.blk.hp (p := ⟨x, k, none⟩) (by have h1 := hR1.blk.col; have h2 := hB2.col; intro e; simp only at e; rw [e] at h1; exact HI.out (by rw [← h2]; exact h1)) (.bool R.1), hR1.blk.col⟩, hR1.ok, hR1.len⟩
  clear c0 hn2 hB2 hm1 hB1 hn1 hm0 hR1
  generalize hW2 : w1.setCell ⟨x, k, none⟩ (.bool R.1) = W2 at hm2 hB3 hn3 hR3
  have c3 := hp_cell hn3.hp
  go_wp2_with fail
  refine (in_look b col1 W2 sb _ hR3).mono ?_
  rintro e w3 ⟨hb3, e0, e1⟩
  have hm3 := hm2.after_below hb3
  by_cases h0 : R.2.e = 0
  · have e0' := e0 h0
    subst e0'
    clear e0 e1
    go_wp2
    refine bodyPost_end (results_none rfl _ _ _) rfl ?_
    have hRd : Rds 126 col1 1 w3 b sb ⟨R.2.at_, 0⟩ := by
      have := hR3.kept (Mv.of_below (S := []) (col := col1) hb3) (by simp)
      rwa [show R.2 = ⟨R.2.at_, 0⟩ from by rw [← h0]] at this
    exact ⟨col1, hm3, .inl ⟨id R.1, by unfold ofR; rw [if_pos h0], rfl, hRd, hB3.kept (Mv.of_below (S := []) hb3) (by simp)⟩⟩
  · have e1' := e1 h0
    subst e1'
    clear e0 e1
    exact ⟨rfl, col1, hm3, .inr ⟨R.2.e, by unfold ofR; rw [if_neg h0], h0, rfl, _, hB3.kept (Mv.of_below (S := []) hb3) (by simp), by simp⟩⟩

end Go.Proofs.Ytiklpifaaogcpaa

namespace Go.Proofs.Ytiklpifaaogcpaa
open Go.RowKit Go.Cl Go.Wr Go.Kc
set_option maxRecDepth 100000
set_option linter.unusedVariables false
set_option linter.unusedSimpArgs false

theorem m_out_num (b : Nat) (w : World) : (method 261 52 (.pointer (some ⟨b, 0, none⟩)) "vouch/codec.num").run Try.prog w = .ok (92, .pointer (some ⟨b, 0, none⟩)) w := by kernel_rfl
theorem n_out_num (b : Nat) (w : World) : (nilAhead 261 52 (.pointer (some ⟨b, 0, none⟩)) "vouch/codec.num").run Try.prog w = .ok (some false) w := by kernel_rfl
theorem m_out_text (b : Nat) (w : World) : (method 261 52 (.pointer (some ⟨b, 0, none⟩)) "vouch/codec.text").run Try.prog w = .ok (93, .pointer (some ⟨b, 0, none⟩)) w := by kernel_rfl
theorem n_out_text (b : Nat) (w : World) : (nilAhead 261 52 (.pointer (some ⟨b, 0, none⟩)) "vouch/codec.text").run Try.prog w = .ok (some false) w := by kernel_rfl
theorem m_out_truth (b : Nat) (w : World) : (method 261 52 (.pointer (some ⟨b, 0, none⟩)) "vouch/codec.truth").run Try.prog w = .ok (94, .pointer (some ⟨b, 0, none⟩)) w := by kernel_rfl
theorem n_out_truth (b : Nat) (w : World) : (nilAhead 261 52 (.pointer (some ⟨b, 0, none⟩)) "vouch/codec.truth").run Try.prog w = .ok (some false) w := by kernel_rfl
theorem m_in_num (b : Nat) (w : World) : (method 261 84 (.agg #[.pointer (some ⟨b, 0, none⟩)]) "vouch/codec.num").run Try.prog w = .ok (101, .agg #[.pointer (some ⟨b, 0, none⟩)]) w := by kernel_rfl
theorem n_in_num (b : Nat) (w : World) : (nilAhead 261 84 (.agg #[.pointer (some ⟨b, 0, none⟩)]) "vouch/codec.num").run Try.prog w = .ok (some false) w := by kernel_rfl
theorem m_in_text (b : Nat) (w : World) : (method 261 84 (.agg #[.pointer (some ⟨b, 0, none⟩)]) "vouch/codec.text").run Try.prog w = .ok (102, .agg #[.pointer (some ⟨b, 0, none⟩)]) w := by kernel_rfl
theorem n_in_text (b : Nat) (w : World) : (nilAhead 261 84 (.agg #[.pointer (some ⟨b, 0, none⟩)]) "vouch/codec.text").run Try.prog w = .ok (some false) w := by kernel_rfl
theorem m_in_truth (b : Nat) (w : World) : (method 261 84 (.agg #[.pointer (some ⟨b, 0, none⟩)]) "vouch/codec.truth").run Try.prog w = .ok (103, .agg #[.pointer (some ⟨b, 0, none⟩)]) w := by kernel_rfl
theorem n_in_truth (b : Nat) (w : World) : (nilAhead 261 84 (.agg #[.pointer (some ⟨b, 0, none⟩)]) "vouch/codec.truth").run Try.prog w = .ok (some false) w := by kernel_rfl
theorem e_92 (a : Array Value) (w : World) : (callFunc 92 a).run Try.prog w = .ok (.enter 92 a) w := by kernel_rfl
theorem e_93 (a : Array Value) (w : World) : (callFunc 93 a).run Try.prog w = .ok (.enter 93 a) w := by kernel_rfl
theorem e_94 (a : Array Value) (w : World) : (callFunc 94 a).run Try.prog w = .ok (.enter 94 a) w := by kernel_rfl
theorem e_101 (a : Array Value) (w : World) : (callFunc 101 a).run Try.prog w = .ok (.enter 101 a) w := by kernel_rfl
theorem e_102 (a : Array Value) (w : World) : (callFunc 102 a).run Try.prog w = .ok (.enter 102 a) w := by kernel_rfl
theorem e_103 (a : Array Value) (w : World) : (callFunc 103 a).run Try.prog w = .ok (.enter 103 a) w := by kernel_rfl

noncomputable def outL (b : Nat) : Lane (List UInt8) where
  o := outO
  lt := 52
  lv := .pointer (some ⟨b, 0, none⟩)
  recv := .pointer (some ⟨b, 0, none⟩)
  fnum := 92
  ftext := 93
  fbool := 94
  LS := fun c W L => Wri c 1 W b L
  fit := fun L => L.length ≤ 140737488355328
  kept := fun h hm hi => h.kept hm hi
  mnum := m_out_num b
  mtext := m_out_text b
  mbool := m_out_truth b
  nnum := n_out_num b
  ntext := n_out_text b
  nbool := n_out_truth b
  enum := e_92
  etext := e_93
  ebool := e_94
  fit_num := fun n L h => by simp only [outO, List.length_append] at h; omega
  fit_text := fun t m L h => by simp only [outO, List.length_append] at h; omega
  fit_bool := fun y L h => by simp only [outO, List.length_append] at h; omega
  cnum := fun col w s i x k cs T n h hB hi hk n1 n2 hf => out_num b col w s i x k cs T n h hB hi hk n1 n2 hf
  ctext := fun col w s i x k cs T t m h hB hi hk hf => out_text b col w s i x k cs T t m h hB hi hk hf
  cbool := fun col w s i x k cs T y h hB hi hk hf => out_bool b col w s i x k cs T y h hB hi hk hf
noncomputable def inL (b : Nat) (sb : ByteArray) : Lane Nat where
  o := inO sb.data.toList
  lt := 84
  lv := .agg #[.pointer (some ⟨b, 0, none⟩)]
  recv := .agg #[.pointer (some ⟨b, 0, none⟩)]
  fnum := 101
  ftext := 102
  fbool := 103
  LS := fun c W p => Rds 126 c 1 W b sb ⟨p, 0⟩
  fit := fun _ => True
  kept := fun h hm hi => h.kept hm hi
  mnum := m_in_num b
  mtext := m_in_text b
  mbool := m_in_truth b
  nnum := n_in_num b
  ntext := n_in_text b
  nbool := n_in_truth b
  enum := e_101
  etext := e_102
  ebool := e_103
  fit_num := fun _ _ _ => trivial
  fit_text := fun _ _ _ _ => trivial
  fit_bool := fun _ _ _ => trivial
  cnum := fun col w s i x k cs T n h hB hi hk n1 n2 hf => in_num b sb col w s i x k cs T n h hB hi hk
  ctext := fun col w s i x k cs T t m h hB hi hk hf => in_text b sb col w s i x k cs T t m h hB hi hk
  cbool := fun col w s i x k cs T y h hB hi hk hf => in_bool b sb col w s i x k cs T y h hB hi hk

end Go.Proofs.Ytiklpifaaogcpaa
