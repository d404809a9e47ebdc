/- Regions that draw, in a round; covers in form. -/
import Derived.Test.YtnofclmnjhkhiaaCj
import Derived.Test.YtnofclmnjhkhiaaCd
import Derived.RangeFuncNested
import Derived.RangeFuncBound
import Derived.RangeFuncCalls
import Derived.RangeFuncLeaves
import Derived.Shelf.Abstract
import Derived.Shelf.RegionOpen
import Derived.OwnWalkIn
import Derived.TacticsInMore
import Derived.LoopNIn
import Derived.LoopIn
import Derived.Sort.CutIn
import Derived.Maps.AppendAt
import Derived.WalkKit
import Derived.WalkLawsBesides
import Derived.WalkSpells
import Derived.Below
import Derived.Deep.RegionHeld3
import Derived.Deep.QuietTactic
import Derived.BigQuiet
import Derived.Deep.DeepCutAuto
import Derived.Deep.DeepMust
import Derived.KernelRfl
import Derived.Lib.Hide
import Derived.Outline
import Derived.RegionTactic
import Derived.StillTailTactics
namespace Go.Proofs.Ytnofclmnjhkhiaa
open Go.RowKit Go.Cl Go.Cv
set_option maxRecDepth 100000
set_option linter.unusedVariables false
set_option linter.unusedSimpArgs false
open Go.Shelf
attribute [local go_sem] Oper.semAt_some

section
variable {P : Program} {Q : Exit → Act → World → Prop} {l n : Nat}
theorem op_in {o : Oper} {a : Act} {w : World} {K K' : Act → World → Prop} (hd : ∀ c, o.op ≠ .defer c) (hK : ∀ a w, K a w → K' a w) (h : o.wp P a w K Q) : o.wpIn (Fence.wide.inRound l) n P a w K' Q := by
  unfold Oper.wpIn
  refine ⟨fun _ _ => trivial, ?_⟩
  rw [Oper.semAt_plain _ _ _ hd]
  unfold Oper.wp at h
  generalize (execOp a.eval o).run P w = r at *
  cases r with
  | ok x w' =>
    cases x <;> simp only [Oper.upon, Oper.uponIn] at h ⊢ <;>
      first
        | exact hK _ _ h
        | exact ⟨fun hh => by simp [Fence.inRound, Fence.wide] at hh, CallsIn.inRound l (callsIn_wide.2 (Calls.mono h (fun e w'' he => by cases e <;> first | exact hK _ _ he | exact he)))⟩
        | exact ⟨fun hh => by simp [Fence.inRound, Fence.wide] at hh, fun c cs _ => by obtain ⟨v, w2, r, s⟩ := h c cs; exact ⟨v, w2, hK _ _ r, stepsIn_wide.2 s⟩⟩
        | exact h.elim
  | halt x w' => cases x <;> simp only [Oper.upon, Oper.uponIn] at h ⊢ <;> exact h
theorem wpAnyIn_of {md : Region.Mode} {ops : Array Oper} (hL : ¬ LetsOut Q) (hd : ∀ (i : Nat) (o : Oper), ops[i]? = some o → ∀ c, o.op ≠ .defer c) : ∀ (fuel : Nat) (listed : Array Bool) (a : Act) (w : World),
    wpAny P md ops Q fuel listed a w → wpAnyIn (Fence.wide.inRound l) n P md ops Q fuel listed a w
  | 0, _, _, _, h => h
  | fuel + 1, listed, a, w, h => by
    refine ⟨h.1, fun i hi => ?_⟩
    have h2 := h.2 i hi
    unfold wpOp at h2
    unfold wpOpIn
    cases e : ops[i]? with
    | none => rw [e] at h2; exact wpAnyIn_of hL hd fuel _ _ _ h2
    | some o =>
      rw [e] at h2
      dsimp only at h2 ⊢
      split
      · rename_i hw
        rw [if_pos hw] at h2
        rcases h2 with h2 | ⟨_, h2⟩
        · exact op_in (hd i o e) (fun a w hh => wpAnyIn_of hL hd fuel _ _ _ hh) h2
        · exact (hL h2).elim
      · rename_i hw
        rw [if_neg hw] at h2
        exact ⟨fun _ _ => trivial, wpAnyIn_of hL hd fuel _ _ _ h2⟩
def noDef (ops : Array Oper) : Bool := ops.all fun o => match o.op with | .defer _ => false | _ => true
theorem noDef_spec {ops : Array Oper} (h : noDef ops = true) : ∀ (i : Nat) (o : Oper), ops[i]? = some o → ∀ c, o.op ≠ .defer c := by
  intro i o ho c hc
  unfold noDef at h
  rw [Array.all_eq_true] at h
  obtain ⟨hi, e⟩ := Array.getElem?_eq_some_iff.1 ho
  have := h i hi
  rw [e, hc] at this
  simp at this
/-- A region that draws, in a loop's round: by the law of regions outside. -/
theorem region_in {id : Nat} {L : List Oper} {a : Act} {w : World} (hm : P.follows .mixedOrders = true) (hd : noDef L.toArray = true) (hL : ¬ LetsOut Q) (h : Ph.At P L.toArray Q 0 a w.drew) : (Code.region id L.toArray true).wpIn (Fence.wide.inRound l) n P Q a w := by
  refine wpIn_region_any hm ?_
  refine wpAnyIn_of hL (noDef_spec hd) _ _ _ _ ?_
  have hz : ∀ j, (Array.replicate L.toArray.size false).getD j false = false := fun j => by
    rcases Nat.lt_or_ge j L.toArray.size with h | h
    · simp at h; simp [h]
    · simp at h; simp [h]
  have := h (Array.replicate L.toArray.size false) (by simp) (fun j oj _ hl => by rw [hz] at hl; cases hl) (fun j _ => by rw [hz]; simp)
  simpa using this
end
/-- Two covers in form with the same numbers are the same list. -/
theorem wf_ext : ∀ {A B : List Sp}, Wf A → Wf B → (∀ x, inL A x ↔ inL B x) → A = B
  | [], [], _, _, _ => rfl
  | [], b :: B, _, hb, h => ((inL_nil b.1) ((h b.1).2 (inL_cons.2 (.inl ⟨Int.le_refl _, hb.head⟩)))).elim
  | a :: A, [], ha, _, h => ((inL_nil a.1) ((h a.1).1 (inL_cons.2 (.inl ⟨Int.le_refl _, ha.head⟩)))).elim
  | a :: A, b :: B, ha, hb, h => by
    have lo : ∀ {c : Sp} {C : List Sp} {x : Int}, Wf (c :: C) → inL (c :: C) x → c.1 ≤ x := by
      intro c C x hc hx
      rcases inL_cons.1 hx with h1 | ⟨d, hd, h1⟩
      · exact h1.1
      · have := hc.ahead d hd; have := hc.head; have := h1.1; omega
    have gap : ∀ {c : Sp} {C : List Sp}, Wf (c :: C) → ¬ inL (c :: C) c.2 := by
      intro c C hc hx
      rcases inL_cons.1 hx with h1 | ⟨d, hd, h1⟩
      · exact absurd h1.2 (by omega)
      · have := hc.ahead d hd; have := h1.1; omega
    have e1 : a.1 = b.1 := by
      have h1 := lo hb ((h a.1).1 (inL_cons.2 (.inl ⟨Int.le_refl _, ha.head⟩)))
      have h2 := lo ha ((h b.1).2 (inL_cons.2 (.inl ⟨Int.le_refl _, hb.head⟩)))
      omega
    have e2 : a.2 = b.2 := by
      have g1 := gap ha; have g2 := gap hb
      rcases Int.lt_trichotomy a.2 b.2 with hh | hh | hh
      · exact (g1 ((h a.2).2 (inL_cons.2 (.inl ⟨by have := ha.head; omega, hh⟩)))).elim
      · exact hh
      · exact (g2 ((h b.2).1 (inL_cons.2 (.inl ⟨by have := hb.head; omega, hh⟩)))).elim
    have e : a = b := Prod.ext e1 e2
    subst e
    have hr : ∀ x, inL A x ↔ inL B x := by
      intro x
      have sep : ∀ {C : List Sp}, Wf (a :: C) → inL C x → ¬ hasS a x := by
        rintro C hc ⟨d, hd, h1⟩ h2
        have := hc.ahead d hd; have := h1.1; have := h2.2; omega
      constructor
      · intro hx
        rcases inL_cons.1 ((h x).1 (inL_cons.2 (.inr hx))) with h1 | h1
        · exact (sep ha hx h1).elim
        · exact h1
      · intro hx
        rcases inL_cons.1 ((h x).2 (inL_cons.2 (.inr hx))) with h1 | h1
        · exact (sep hb hx h1).elim
        · exact h1
    rw [wf_ext ha.tail hb.tail hr]
theorem cutC_idem {L : List Sp} (hw : Wf L) (s : Sp) : cutC (cutC L s) s = cutC L s := by
  obtain ⟨h1, h2, _⟩ := cutC_law hw s
  obtain ⟨h3, h4, _⟩ := cutC_law h1 s
  exact wf_ext h3 h1 (fun x => by rw [h4 x, h2 x]; exact ⟨fun h => h.1, fun h => ⟨h, h.2⟩⟩)
end Go.Proofs.Ytnofclmnjhkhiaa
