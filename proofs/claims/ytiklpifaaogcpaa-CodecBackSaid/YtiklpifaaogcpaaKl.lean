/- The two lanes: what a step does to memory. -/
import Derived.Test.YtiklpifaaogcpaaWz2
import Derived.Test.YtiklpifaaogcpaaGh
import Derived.Test.YtiklpifaaogcpaaKp
import Derived.WalkKit
import Derived.WalkLawsBesides
import Derived.WalkSpells
import Derived.Below
import Derived.Deep.RegionHeld3
import Derived.Deep.QuietTactic
import Derived.BigQuiet
import Derived.Deep.DeepCutAuto
import Derived.Deep.DeepMust
import Derived.KernelRfl
import Derived.Lib.Hide
import Derived.Outline
import Derived.RegionTactic
import Derived.StillTailTactics
import Derived.Laws.IdiomStrings
namespace Go.Proofs.Ytiklpifaaogcpaa
open Go.RowKit Go.Cl Go.Wr Go.Kc
set_option maxRecDepth 100000
set_option linter.unusedVariables false
set_option linter.unusedSimpArgs false


theorem set_same {cs : Array Value} {k : Nat} {v : Value} (h : cs[k]? = some v) : cs.setIfInBounds k v = cs := by
  apply Array.ext_getElem?
  intro i
  rw [Array.getElem?_setIfInBounds]
  split
  · subst_vars
    obtain ⟨hk, e⟩ := Array.getElem?_eq_some_iff.1 h
    rw [if_pos hk, h]
  · rfl
/-- What a step of a lane leaves. -/
def LPost {σ α : Type} (LS : (Nat → Nat) → World → σ → Prop) (S : List Nat) (col : Nat → Nat) (w : World) (r : Except Nat α × σ) (J : α → (Nat → Nat) → World → Prop) (E : (Nat → Nat) → World → Prop) : Ending → World → Prop := fun e w' =>
  ∃ col', Mv S col w col' w' ∧ ((∃ a, r.1 = .ok a ∧ e = .returned (.tuple #[]) ∧ LS col' w' r.2 ∧ J a col' w') ∨ (∃ er, r.1 = .error er ∧ er ≠ 0 ∧ e = .panicked [{ v := .iface 79 (.agg #[.int .i64 (er : Int)]), recovered := false }] ∧ E col' w'))
/-- A block is there still, as large as it was. -/
def Kep (x i T n : Nat) (c : Nat → Nat) (w' : World) : Prop := ∃ cs', Blk c i w' x cs' T ∧ cs'.size = n
structure Lane (σ : Type) where
  o : Ops σ
  lt : TypeId
  lv : Value
  recv : Value
  fnum : FuncId
  ftext : FuncId
  fbool : FuncId
  LS : (Nat → Nat) → World → σ → Prop
  fit : σ → Prop
  kept : ∀ {S : List Nat} {col col' : Nat → Nat} {w w' : World} {s : σ}, LS col w s → Mv S col w col' w' → 1 ∉ S → LS col' w' s
  mnum : ∀ w, (method 261 lt lv "vouch/codec.num").run Try.prog w = .ok (fnum, recv) w
  mtext : ∀ w, (method 261 lt lv "vouch/codec.text").run Try.prog w = .ok (ftext, recv) w
  mbool : ∀ w, (method 261 lt lv "vouch/codec.truth").run Try.prog w = .ok (fbool, recv) w
  nnum : ∀ w, (nilAhead 261 lt lv "vouch/codec.num").run Try.prog w = .ok (some false) w
  ntext : ∀ w, (nilAhead 261 lt lv "vouch/codec.text").run Try.prog w = .ok (some false) w
  nbool : ∀ w, (nilAhead 261 lt lv "vouch/codec.truth").run Try.prog w = .ok (some false) w
  enum : ∀ a w, (callFunc fnum a).run Try.prog w = .ok (.enter fnum a) w
  etext : ∀ a w, (callFunc ftext a).run Try.prog w = .ok (.enter ftext a) w
  ebool : ∀ a w, (callFunc fbool a).run Try.prog w = .ok (.enter fbool a) w
  fit_num : ∀ n, Mono fit (o.num n)
  fit_text : ∀ t m, Mono fit (o.text t m)
  fit_bool : ∀ b, Mono fit (o.bool b)
  cnum : ∀ (col : Nat → Nat) (w : World) (s : σ) (i x k : Nat) (cs : Array Value) (T : TypeId) (n : Int), LS col w s → Blk col i w x cs T → i ≠ 1 → cs[k]? = some (.int .i64 n) → -9223372036854775808 ≤ n → n ≤ 9223372036854775807 →
    fit (o.num n s).2 → Calls Try.prog fnum #[recv, .pointer (some ⟨x, k, none⟩)] w (LPost LS [1, i] col w (o.num n s) (fun n' col' w' => Blk col' i w' x (cs.setIfInBounds k (.int .i64 n')) T) (Kep x i T cs.size))
  ctext : ∀ (col : Nat → Nat) (w : World) (s : σ) (i x k : Nat) (cs : Array Value) (T : TypeId) (t : ByteArray) (m : Int), LS col w s → Blk col i w x cs T → i ≠ 1 → cs[k]? = some (.string t) →
    fit (o.text t m s).2 → Calls Try.prog ftext #[recv, .pointer (some ⟨x, k, none⟩), .int .i64 m] w (LPost LS [1, i] col w (o.text t m s) (fun t' col' w' => Blk col' i w' x (cs.setIfInBounds k (.string t')) T) (Kep x i T cs.size))
  cbool : ∀ (col : Nat → Nat) (w : World) (s : σ) (i x k : Nat) (cs : Array Value) (T : TypeId) (b : Bool), LS col w s → Blk col i w x cs T → i ≠ 1 → cs[k]? = some (.bool b) →
    fit (o.bool b s).2 → Calls Try.prog fbool #[recv, .pointer (some ⟨x, k, none⟩)] w (LPost LS [1, i] col w (o.bool b s) (fun b' col' w' => Blk col' i w' x (cs.setIfInBounds k (.bool b')) T) (Kep x i T cs.size))

end Go.Proofs.Ytiklpifaaogcpaa
