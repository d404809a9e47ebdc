/- Messages as data, and what goes over their fields, of any lane: plain law; no program in sight. -/
import Derived.Test.YtiklpifaaogcpaaWr
namespace Go.Kc
open Go.Wr
/-- A step of a lane: an error's number, or what comes of it. -/
def M (σ α : Type) := σ → Except Nat α × σ
def M.ret {σ α : Type} (a : α) : M σ α := fun s => (.ok a, s)
def M.bind {σ α β : Type} (p : M σ α) (q : α → M σ β) : M σ β := fun s => match p s with | (.error e, s') => (.error e, s') | (.ok a, s') => q a s'
def M.fail {σ α : Type} (e : Nat) : M σ α := fun s => (.error e, s)
structure Ops (σ : Type) where
  num : Int → M σ Int
  bool : Bool → M σ Bool
  text : ByteArray → Int → M σ ByteArray
/-- A key, and its value. -/
structure Wt where
  k : ByteArray
  h : Bool
  d : ByteArray
structure Mg where
  kind : Int
  node : Int
  inc : Int
  ses : Int
  tx : Int
  seq : Int
  key : ByteArray
  lo : Int
  hi : Int
  has : Bool
  data : ByteArray
  hit : Bool
  err : Int
  n : Int
  W : List Wt
  K : List ByteArray
def emp : ByteArray := ⟨#[]⟩
def Wt.zero : Wt := ⟨emp, false, emp⟩
def Mg.zero : Mg := ⟨0, 0, 0, 0, 0, 0, emp, 0, 0, false, emp, false, 0, 0, [], []⟩
section
variable {σ : Type} (o : Ops σ)
def valueT (h : Bool) (d : ByteArray) : M σ (Bool × ByteArray) := (o.bool h).bind fun h' => if h' then (o.text d 256).bind fun d' => .ret (h', d') else .ret (h', d)
def pinT (lo hi : Int) : M σ (Int × Int) := (o.num lo).bind fun lo' => (o.num hi).bind fun hi' => .ret (lo', hi')
def elemT (x : Wt) : M σ Wt := (o.text x.k 32).bind fun k => (valueT o x.h x.d).bind fun v => .ret ⟨k, v.1, v.2⟩
def keyT (x : ByteArray) : M σ ByteArray := o.text x 32
def mapT {α : Type} (one : α → M σ α) : List α → M σ (List α)
  | [] => .ret []
  | x :: l => (one x).bind fun y => (mapT one l).bind fun r => .ret (y :: r)
def listT {α : Type} (one : α → M σ α) (z : α) (L : List α) : M σ (List α) :=
  (o.num L.length).bind fun n => if n < 1 ∨ 8 < n then .fail 11 else mapT one (if L.length = 0 then List.replicate n.toNat z else L)
def askedT (m : Mg) : M σ Mg := (o.num m.tx).bind fun tx => (o.num m.seq).bind fun seq => .ret { m with tx := tx, seq := seq }
/-- value and pin of a message. -/
def fullT (m : Mg) : M σ Mg := (valueT o m.has m.data).bind fun v => (pinT o m.lo m.hi).bind fun p => .ret { m with has := v.1, data := v.2, lo := p.1, hi := p.2 }
def toldT (m : Mg) : M σ Mg := (o.num m.node).bind fun nd =>
  let m1 := { m with node := nd }
  if m.kind = 7 then (o.text m.key 32).bind fun k => (fullT o { m1 with key := k }).bind fun m2 => (o.num m.n).bind fun n => .ret { m2 with n := n }
  else if m.kind = 8 then (o.num m.n).bind fun n => (listT o (keyT o) emp m.K).bind fun K => .ret { m1 with n := n, K := K }
  else if m.kind = 10 then (o.num m.inc).bind fun i => .ret { m1 with inc := i }
  else if m.kind = 11 then (o.num m.inc).bind fun i => (o.num m.n).bind fun n => .ret { m1 with inc := i, n := n }
  else if m.kind = 9 then (o.num m.n).bind fun n => .ret { m1 with n := n }
  else .ret m1
def keyedT (m : Mg) : M σ Mg := (askedT o m).bind fun m1 => (o.text m.key 32).bind fun k => (pinT o m.lo m.hi).bind fun p => .ret { m1 with key := k, lo := p.1, hi := p.2 }
def fieldsT (m : Mg) : M σ Mg :=
  if m.kind = 1 then (o.num m.ses).bind fun ses => (o.num m.seq).bind fun seq => (listT o (elemT o) Wt.zero m.W).bind fun W => .ret { m with ses := ses, seq := seq, W := W }
  else if m.kind = 2 then (o.num m.ses).bind fun ses => (o.num m.seq).bind fun seq => (o.num m.err).bind fun err => (o.num m.n).bind fun n => .ret { m with ses := ses, seq := seq, err := err, n := n }
  else if m.kind = 3 then (o.num m.node).bind fun nd => keyedT o { m with node := nd }
  else if m.kind = 5 then keyedT o m
  else if m.kind = 4 then (askedT o m).bind fun m1 => (o.bool m.hit).bind fun h => if h then fullT o { m1 with hit := h } else .ret { m1 with hit := h }
  else if m.kind = 6 then (askedT o m).bind fun m1 => (o.num m.err).bind fun er => if er = 0 then fullT o { m1 with err := er } else .ret { m1 with err := er }
  else toldT o m
end
/-- The two lanes. -/
def outO : Ops (List UInt8) := ⟨fun n L => (.ok n, L ++ num (zz n)), fun b L => (.ok b, L ++ bol b), fun t _ L => (.ok t, L ++ txt t.data.toList)⟩
def ofR {α β : Type} (f : α → β) (r : α × St) : Except Nat β × Nat := (if r.2.e = 0 then .ok (f r.1) else .error r.2.e, r.2.at_)
def inO (s : List UInt8) : Ops Nat := ⟨fun _ p => ofR id (rNum s ⟨p, 0⟩), fun _ p => ofR id (rBool s ⟨p, 0⟩), fun _ most p => ofR (fun l => ⟨l.toArray⟩) (rText s most ⟨p, 0⟩)⟩

section
variable {σ : Type} {α β : Type}
theorem bind_ok {p : M σ α} {q : α → M σ β} {s : σ} {a : α} (h : (p s).1 = .ok a) : p.bind q s = q a (p s).2 := by
  unfold M.bind
  generalize p s = r at h ⊢
  obtain ⟨x, s'⟩ := r
  simp only at h
  subst h
  rfl
theorem bind_error {p : M σ α} {q : α → M σ β} {s : σ} {e : Nat} (h : (p s).1 = .error e) : p.bind q s = (.error e, (p s).2) := by
  unfold M.bind
  generalize p s = r at h ⊢
  obtain ⟨x, s'⟩ := r
  simp only at h
  subst h
  rfl
theorem ret_bind (a : α) (q : α → M σ β) : (M.ret a).bind q = q a := rfl
theorem bind_assoc {γ : Type} (p : M σ α) (q : α → M σ β) (r : β → M σ γ) : (p.bind q).bind r = p.bind fun a => (q a).bind r := by
  funext s
  cases h : (p s).1 with
  | error e => rw [bind_error h, bind_error (p := p.bind q) (e := e) (by rw [bind_error h]), bind_error h]
  | ok a =>
    rw [bind_ok h]
    unfold M.bind
    generalize p s = r0 at h ⊢
    obtain ⟨x, s'⟩ := r0
    simp only at h
    subst h
    rfl
theorem fit_step {fit : σ → Prop} {p : M σ α} {q : α → M σ β} {s : σ} {a : α} (h : fit (p.bind q s).2) (hr : (p s).1 = .ok a) : fit (q a (p s).2).2 := by rw [bind_ok hr] at h; exact h
/-- What fits behind a step has fitted ahead of it. -/
def Mono (fit : σ → Prop) (p : M σ α) : Prop := ∀ s, fit (p s).2 → fit s
theorem mono_ret {fit : σ → Prop} (a : α) : Mono fit (M.ret a : M σ α) := fun _ h => h
theorem mono_fail {fit : σ → Prop} (e : Nat) : Mono fit (M.fail e : M σ α) := fun _ h => h
theorem fit_left {fit : σ → Prop} {p : M σ α} {q : α → M σ β} (hq : ∀ a, Mono fit (q a)) {s : σ} (h : fit (p.bind q s).2) : fit (p s).2 := by
  cases e : (p s).1 with
  | error _ => rw [bind_error e] at h; exact h
  | ok a => rw [bind_ok e] at h; exact hq a _ h
theorem mono_bind {fit : σ → Prop} {p : M σ α} {q : α → M σ β} (hp : Mono fit p) (hq : ∀ a, Mono fit (q a)) : Mono fit (p.bind q) := fun s h => hp s (fit_left hq h)
end

section
variable {σ : Type} (o : Ops σ) (m : Mg)
theorem told_7 (h : m.kind = 7) : toldT o m = (o.num m.node).bind fun nd => (o.text m.key 32).bind fun k => (valueT o m.has m.data).bind fun v => (pinT o m.lo m.hi).bind fun p => (o.num m.n).bind fun n => .ret { m with node := nd, key := k, has := v.1, data := v.2, lo := p.1, hi := p.2, n := n } := by
  unfold toldT
  congr 1; funext nd
  dsimp only
  rw [if_pos h]
  congr 1; funext k
  unfold fullT
  rw [bind_assoc]
  congr 1; funext v
  rw [bind_assoc]
  rfl
theorem told_8 (h : m.kind = 8) : toldT o m = (o.num m.node).bind fun nd => (o.num m.n).bind fun n => (listT o (keyT o) emp m.K).bind fun K => .ret { m with node := nd, n := n, K := K } := by
  unfold toldT
  congr 1; funext nd
  dsimp only
  rw [if_neg (by omega), if_pos h]
theorem told_9 (h : m.kind = 9) : toldT o m = (o.num m.node).bind fun nd => (o.num m.n).bind fun n => .ret { m with node := nd, n := n } := by
  unfold toldT
  congr 1; funext nd
  dsimp only
  rw [if_neg (by omega), if_neg (by omega), if_neg (by omega), if_neg (by omega), if_pos h]
theorem told_10 (h : m.kind = 10) : toldT o m = (o.num m.node).bind fun nd => (o.num m.inc).bind fun i => .ret { m with node := nd, inc := i } := by
  unfold toldT
  congr 1; funext nd
  dsimp only
  rw [if_neg (by omega), if_neg (by omega), if_pos h]
theorem told_11 (h : m.kind = 11) : toldT o m = (o.num m.node).bind fun nd => (o.num m.inc).bind fun i => (o.num m.n).bind fun n => .ret { m with node := nd, inc := i, n := n } := by
  unfold toldT
  congr 1; funext nd
  dsimp only
  rw [if_neg (by omega), if_neg (by omega), if_neg (by omega), if_pos h]
theorem told_0 (h7 : ¬ m.kind = 7) (h8 : ¬ m.kind = 8) (h9 : ¬ m.kind = 9) (h10 : ¬ m.kind = 10) (h11 : ¬ m.kind = 11) : toldT o m = (o.num m.node).bind fun nd => .ret { m with node := nd } := by
  unfold toldT
  congr 1; funext nd
  dsimp only
  rw [if_neg h7, if_neg h8, if_neg h10, if_neg h11, if_neg h9]
theorem fields_1 (h : m.kind = 1) : fieldsT o m = (o.num m.ses).bind fun ses => (o.num m.seq).bind fun seq => (listT o (elemT o) Wt.zero m.W).bind fun W => .ret { m with ses := ses, seq := seq, W := W } := by
  unfold fieldsT; rw [if_pos h]
theorem fields_2 (h : m.kind = 2) : fieldsT o m = (o.num m.ses).bind fun ses => (o.num m.seq).bind fun seq => (o.num m.err).bind fun err => (o.num m.n).bind fun n => .ret { m with ses := ses, seq := seq, err := err, n := n } := by
  unfold fieldsT; rw [if_neg (by omega), if_pos h]
theorem fields_3 (h : m.kind = 3) : fieldsT o m = (o.num m.node).bind fun nd => (askedT o { m with node := nd }).bind fun m1 => (o.text m.key 32).bind fun k => (pinT o m.lo m.hi).bind fun p => .ret { m1 with key := k, lo := p.1, hi := p.2 } := by
  unfold fieldsT; rw [if_neg (by omega), if_neg (by omega), if_pos h]; rfl
theorem fields_5 (h : m.kind = 5) : fieldsT o m = (askedT o m).bind fun m1 => (o.text m.key 32).bind fun k => (pinT o m.lo m.hi).bind fun p => .ret { m1 with key := k, lo := p.1, hi := p.2 } := by
  unfold fieldsT; rw [if_neg (by omega), if_neg (by omega), if_neg (by omega), if_pos h]; rfl
theorem fields_4 (h : m.kind = 4) : fieldsT o m = (askedT o m).bind fun m1 => (o.bool m.hit).bind fun h => if h then (valueT o m1.has m1.data).bind fun v => (pinT o m1.lo m1.hi).bind fun p => .ret { m1 with hit := h, has := v.1, data := v.2, lo := p.1, hi := p.2 } else .ret { m1 with hit := h } := by
  unfold fieldsT; rw [if_neg (by omega), if_neg (by omega), if_neg (by omega), if_neg (by omega), if_pos h]; rfl
theorem fields_6 (h : m.kind = 6) : fieldsT o m = (askedT o m).bind fun m1 => (o.num m.err).bind fun er => if er = 0 then (valueT o m1.has m1.data).bind fun v => (pinT o m1.lo m1.hi).bind fun p => .ret { m1 with err := er, has := v.1, data := v.2, lo := p.1, hi := p.2 } else .ret { m1 with err := er } := by
  unfold fieldsT; rw [if_neg (by omega), if_neg (by omega), if_neg (by omega), if_neg (by omega), if_neg (by omega), if_pos h]; rfl
theorem fields_0 (h1 : ¬ m.kind = 1) (h2 : ¬ m.kind = 2) (h3 : ¬ m.kind = 3) (h4 : ¬ m.kind = 4) (h5 : ¬ m.kind = 5) (h6 : ¬ m.kind = 6) : fieldsT o m = toldT o m := by
  unfold fieldsT; rw [if_neg h1, if_neg h2, if_neg h3, if_neg h5, if_neg h4, if_neg h6]
end
end Go.Kc
