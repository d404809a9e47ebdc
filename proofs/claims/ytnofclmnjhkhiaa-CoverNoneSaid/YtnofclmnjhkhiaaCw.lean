/- What two covers have: two ways to reckon it. -/
import Derived.Test.YtnofclmnjhkhiaaRi
import Derived.Test.YtnofclmnjhkhiaaCm
import Derived.WalkKit
import Derived.WalkLawsBesides
import Derived.WalkSpells
import Derived.Below
import Derived.Deep.RegionHeld3
import Derived.Deep.QuietTactic
import Derived.BigQuiet
import Derived.Deep.DeepCutAuto
import Derived.Deep.DeepMust
import Derived.KernelRfl
import Derived.Lib.Hide
import Derived.Outline
import Derived.RegionTactic
import Derived.StillTailTactics
namespace Go.Proofs.Ytnofclmnjhkhiaa
open Go.RowKit Go.Cl Go.Cv
set_option maxRecDepth 100000
set_option linter.unusedVariables false
set_option linter.unusedSimpArgs false

theorem sub_length {α : Type} [DecidableEq α] : ∀ {l m : List α}, l.Nodup → (∀ a ∈ l, a ∈ m) → l.length ≤ m.length
  | [], _, _, _ => Nat.zero_le _
  | a :: l, m, hn, h => by
    obtain ⟨h1, h2⟩ := List.nodup_cons.1 hn
    have ha : a ∈ m := h a List.mem_cons_self
    have := sub_length (m := m.erase a) h2 (fun b hb => (List.mem_erase_of_ne (fun (e : b = a) => h1 (by rw [← e]; exact hb))).2 (h b (List.mem_cons_of_mem _ hb)))
    have e := List.length_erase_of_mem ha
    have hp : 0 < m.length := List.length_pos_of_mem ha
    simp only [List.length_cons]
    omega
theorem wf_nodup {L : List Sp} (hw : Wf L) : (L.map (·.1)).Nodup := by
  unfold List.Nodup
  rw [List.pairwise_map]
  refine List.Pairwise.imp_of_mem (fun {a b} ha hb h => ?_) hw.2
  have := hw.1 a ha; omega
theorem wf_starts {L : List Sp} {S : List Int} (hw : Wf L) (h : ∀ a ∈ L, a.1 ∈ S) : L.length ≤ S.length := by
  have := sub_length (l := L.map (·.1)) (m := S) (wf_nodup hw) (fun y hy => by obtain ⟨a, ha, rfl⟩ := List.mem_map.1 hy; exact h a ha)
  simpa using this
theorem start_in {L : List Sp} (hw : Wf L) {a : Sp} (ha : a ∈ L) : inL L a.1 ∧ ¬ inL L (a.1 - 1) := by
  refine ⟨⟨a, ha, Int.le_refl _, hw.1 a ha⟩, ?_⟩
  rintro ⟨b, hb, h1, h2⟩
  obtain ⟨k, hk⟩ := List.mem_iff_getElem?.1 ha
  obtain ⟨j, hj⟩ := List.mem_iff_getElem?.1 hb
  rcases Nat.lt_trichotomy k j with h | h | h
  · have := hw.lt hk hj h; have := hw.get hk; omega
  · subst h; rw [hk] at hj; obtain rfl := Option.some.inj hj; omega
  · have := hw.lt hj hk h; omega
theorem start_of {L : List Sp} {y : Int} (h : inL L y) (h2 : ¬ inL L (y - 1)) : ∃ a ∈ L, a.1 = y := by
  obtain ⟨a, ha, h3, h4⟩ := h
  refine ⟨a, ha, ?_⟩
  rcases Int.lt_or_le a.1 y with h5 | h5
  · exact (h2 ⟨a, ha, by omega, by omega⟩).elim
  · omega
theorem addL_starts {L : List Sp} (hw : Wf L) (s : Sp) : ∀ a ∈ addL L s, (a.1 = s.1 ∧ s.1 < s.2) ∨ ∃ a' ∈ L, a'.1 = a.1 := by
  intro a ha
  obtain ⟨h1, h2, _⟩ := addL_law hw s
  obtain ⟨h3, h4⟩ := start_in h1 ha
  rw [h2] at h3 h4
  by_cases hs : hasS s a.1
  · by_cases hs2 : hasS s (a.1 - 1)
    · exact (h4 (.inr hs2)).elim
    · refine .inl ?_
      unfold hasS at hs hs2
      omega
  · have h5 : inL L a.1 := h3.resolve_right hs
    exact .inr (start_of h5 (fun h => h4 (.inl h)))
/-- What two spans have. -/
def mt (s x : Sp) : Sp := ofS (max s.1 x.1) (min s.2 x.2)
theorem mt_has (s x : Sp) (y : Int) : hasS (mt s x) y ↔ hasS s y ∧ hasS x y := by
  unfold mt ofS hasS
  split <;> simp <;> omega
theorem mt_start (s x : Sp) (h : (mt s x).1 < (mt s x).2) : (mt s x).1 = s.1 ∨ (mt s x).1 = x.1 := by
  unfold mt ofS at h ⊢
  split
  · rename_i hh; rw [if_pos hh] at h; simp at h
  · simp only; omega
/-- One span of the first against the second's. -/
def inM (s : Sp) : List Sp → List Sp → List Sp
  | O, [] => O
  | O, x :: r => if s.2 ≤ x.1 then O else inM s (addL O (mt s x)) r
def MP (B : List Sp) (pre : List Sp) : List Sp := pre.foldl (fun O s => inM s O (B.drop (frm B s.1))) []
theorem MP_snoc (B pre : List Sp) (x : Sp) : MP B (pre ++ [x]) = inM x (MP B pre) (B.drop (frm B x.1)) := by simp [MP]
def Good (A B O : List Sp) : Prop := Wf O ∧ ∀ a ∈ O, a.1 ∈ A.map (·.1) ++ B.map (·.1)
theorem Good.nil (A B : List Sp) : Good A B [] := ⟨Wf.nil, fun a h => by simp at h⟩
theorem Good.len {A B O : List Sp} (h : Good A B O) : O.length ≤ A.length + B.length := by
  have := wf_starts h.1 h.2; simpa using this
theorem Good.more {A B O : List Sp} (h : Good A B O) (x : Sp) : Good (A ++ [x]) B O := ⟨h.1, fun a ha => by have := h.2 a ha; simp at this ⊢; rcases this with h1 | h1 <;> simp [h1]⟩
theorem Good.add {A B O : List Sp} (h : Good A B O) {s b : Sp} (hs : s ∈ A) (hb : b ∈ B) : Good A B (addL O (mt s b)) := by
  refine ⟨(addL_law h.1 _).1, fun a ha => ?_⟩
  rcases addL_starts h.1 _ a ha with ⟨h1, h2⟩ | ⟨a', h1, h2⟩
  · rw [h1]
    rcases mt_start s b h2 with h3 | h3
    · rw [h3]; exact List.mem_append.2 (.inl (List.mem_map.2 ⟨s, hs, rfl⟩))
    · rw [h3]; exact List.mem_append.2 (.inr (List.mem_map.2 ⟨b, hb, rfl⟩))
  · rw [← h2]; exact h.2 a' h1
theorem inM_good {A B : List Sp} {s : Sp} (hs : s ∈ A) : ∀ (D O : List Sp), Good A B O → (∀ x ∈ D, x ∈ B) → Good A B (inM s O D)
  | [], O, h, _ => h
  | x :: r, O, h, hD => by
    unfold inM
    split
    · exact h
    · exact inM_good hs r _ (h.add hs (hD x List.mem_cons_self)) (fun y hy => hD y (List.mem_cons_of_mem _ hy))
theorem MP_good (B : List Sp) (pre : List Sp) : Good pre B (MP B pre) := by
  have key : ∀ n, Good (pre.take n) B (MP B (pre.take n)) := by
    intro n
    induction n with
    | zero => exact Good.nil _ _
    | succ n ih =>
      cases e : pre[n]? with
      | none => rw [List.take_add_one, e]; simpa using ih
      | some a =>
        rw [List.take_add_one, e]
        show Good (_ ++ [a]) B (MP B (_ ++ [a]))
        rw [MP_snoc]
        exact inM_good (by simp) _ _ (ih.more a) (fun x hx => List.mem_of_mem_drop hx)
  have := key pre.length
  rwa [List.take_length] at this
theorem inM_in {s : Sp} {B : List Sp} (hw : Wf B) : ∀ (D O : List Sp), Wf O → Wf D → (∀ x, inL (inM s O D) x ↔ inL O x ∨ (hasS s x ∧ inL D x)) ∧ Wf (inM s O D)
  | [], O, h, _ => ⟨fun x => ⟨.inl, fun h2 => h2.elim id (fun h3 => (inL_nil x h3.2).elim)⟩, h⟩
  | d :: r, O, h, hd => by
    unfold inM
    split
    · rename_i hh
      refine ⟨fun x => ⟨.inl, fun h2 => h2.elim id (fun h3 => ?_)⟩, h⟩
      exfalso
      have h4 := h3.1.2
      rcases inL_cons.1 h3.2 with h5 | ⟨e, he, h5⟩
      · have := h5.1; omega
      · have := hd.ahead e he; have := hd.head; have := h5.1; omega
    · obtain ⟨h1, h2, _⟩ := addL_law h (mt s d)
      obtain ⟨h3, h4⟩ := inM_in (s := s) hw r _ h1 hd.tail
      refine ⟨fun x => ?_, h4⟩
      rw [h3 x, h2 x, inL_cons, mt_has]
      constructor
      · rintro ((h5 | h5) | h5)
        · exact .inl h5
        · exact .inr ⟨h5.1, .inl h5.2⟩
        · exact .inr ⟨h5.1, .inr h5.2⟩
      · rintro (h5 | ⟨h5, h6 | h6⟩)
        · exact .inl (.inl h5)
        · exact .inl (.inr ⟨h5, h6⟩)
        · exact .inr ⟨h5, h6⟩
theorem wf_drop {B : List Sp} (hw : Wf B) (k : Nat) : Wf (B.drop k) := ⟨fun a ha => hw.1 a (List.mem_of_mem_drop ha), List.Pairwise.sublist (List.drop_sublist _ _) hw.2⟩
theorem in_drop {B : List Sp} {s : Sp} {x : Int} (h : hasS s x) : inL (B.drop (frm B s.1)) x ↔ inL B x := by
  constructor
  · rintro ⟨a, ha, h1⟩; exact ⟨a, List.mem_of_mem_drop ha, h1⟩
  · rintro ⟨a, ha, h1⟩
    obtain ⟨k, hk⟩ := List.mem_iff_getElem?.1 ha
    rcases Nat.lt_or_ge k (frm B s.1) with h2 | h2
    · have := frm_lo h2 hk; have := h.1; have := h1.2; omega
    · refine ⟨a, List.mem_iff_getElem?.2 ⟨k - frm B s.1, ?_⟩, h1⟩
      rw [List.getElem?_drop]
      rw [show frm B s.1 + (k - frm B s.1) = k by omega]; exact hk
theorem MP_in {B : List Sp} (hw : Wf B) (A : List Sp) : (∀ x, inL (MP B A) x ↔ inL A x ∧ inL B x) := by
  have key : ∀ n x, inL (MP B (A.take n)) x ↔ inL (A.take n) x ∧ inL B x := by
    intro n
    induction n with
    | zero => intro x; exact ⟨fun h => (inL_nil x h).elim, fun h => (inL_nil x h.1).elim⟩
    | succ n ih =>
      intro x
      cases e : A[n]? with
      | none => rw [List.take_add_one, e]; simpa using ih x
      | some a =>
        rw [List.take_add_one, e]
        show inL (MP B (_ ++ [a])) x ↔ inL (_ ++ [a]) x ∧ _
        rw [MP_snoc, (inM_in hw _ _ (MP_good B (A.take n)).1 (wf_drop hw _)).1 x, ih x, inL_app]
        have hone : inL [a] x ↔ hasS a x := by rw [inL_cons]; exact ⟨fun h => h.elim id (fun h => (inL_nil x h).elim), .inl⟩
        rw [hone]
        constructor
        · rintro (h | ⟨h1, h2⟩)
          · exact ⟨.inl h.1, h.2⟩
          · exact ⟨.inr h1, (in_drop h1).1 h2⟩
        · rintro ⟨h1 | h1, h2⟩
          · exact .inl ⟨h1, h2⟩
          · exact .inr ⟨h1, (in_drop h1).2 h2⟩
  intro x
  have := key A.length x
  rwa [List.take_length] at this
/-- The reference's. -/
def inR (s : Sp) (O D : List Sp) : List Sp := D.foldl (fun O x => addL O (mt s x)) O
def MR (B : List Sp) (pre : List Sp) : List Sp := pre.foldl (fun O s => inR s O B) []
theorem MR_snoc (B pre : List Sp) (x : Sp) : MR B (pre ++ [x]) = inR x (MR B pre) B := by simp [MR]
theorem inR_take (s : Sp) (O D : List Sp) (k : Nat) (x : Sp) (h : D[k]? = some x) : inR s O (D.take (k + 1)) = addL (inR s O (D.take k)) (mt s x) := by
  unfold inR; rw [List.take_add_one, h, List.foldl_append]; rfl
theorem inR_good {A B : List Sp} {s : Sp} (hs : s ∈ A) : ∀ (D O : List Sp), Good A B O → (∀ x ∈ D, x ∈ B) → Good A B (inR s O D)
  | [], O, h, _ => h
  | x :: r, O, h, hD => inR_good hs r _ (h.add hs (hD x List.mem_cons_self)) (fun y hy => hD y (List.mem_cons_of_mem _ hy))
theorem MR_good (B : List Sp) (pre : List Sp) (n : Nat) : Good (pre.take n) B (MR B (pre.take n)) := by
  induction n with
  | zero => exact Good.nil _ _
  | succ n ih =>
    cases e : pre[n]? with
    | none => rw [List.take_add_one, e]; simpa using ih
    | some a =>
      rw [List.take_add_one, e]
      show Good (_ ++ [a]) B (MR B (_ ++ [a]))
      rw [MR_snoc]
      exact inR_good (by simp) _ _ (ih.more a) (fun x hx => hx)
theorem inR_in {s : Sp} : ∀ (D O : List Sp), Wf O → (∀ x, inL (inR s O D) x ↔ inL O x ∨ (hasS s x ∧ inL D x))
  | [], O, _ => fun x => ⟨.inl, fun h2 => h2.elim id (fun h3 => (inL_nil x h3.2).elim)⟩
  | d :: r, O, h => fun x => by
    obtain ⟨h1, h2, _⟩ := addL_law h (mt s d)
    show inL (inR s (addL O (mt s d)) r) x ↔ _
    rw [inR_in (s := s) r _ h1 x, h2 x, inL_cons, mt_has]
    constructor
    · rintro ((h5 | h5) | h5)
      · exact .inl h5
      · exact .inr ⟨h5.1, .inl h5.2⟩
      · exact .inr ⟨h5.1, .inr h5.2⟩
    · rintro (h5 | ⟨h5, h6 | h6⟩)
      · exact .inl (.inl h5)
      · exact .inl (.inr ⟨h5, h6⟩)
      · exact .inr ⟨h5, h6⟩
theorem MR_in (B A : List Sp) : (∀ x, inL (MR B A) x ↔ inL A x ∧ inL B x) := by
  have key : ∀ n x, inL (MR B (A.take n)) x ↔ inL (A.take n) x ∧ inL B x := by
    intro n
    induction n with
    | zero => intro x; exact ⟨fun h => (inL_nil x h).elim, fun h => (inL_nil x h.1).elim⟩
    | succ n ih =>
      intro x
      cases e : A[n]? with
      | none => rw [List.take_add_one, e]; simpa using ih x
      | some a =>
        rw [List.take_add_one, e]
        show inL (MR B (_ ++ [a])) x ↔ inL (_ ++ [a]) x ∧ _
        rw [MR_snoc, inR_in _ _ (MR_good B A n).1 x, ih x, inL_app]
        have hone : inL [a] x ↔ hasS a x := by rw [inL_cons]; exact ⟨fun h => h.elim id (fun h => (inL_nil x h).elim), .inl⟩
        rw [hone]
        constructor
        · rintro (h | ⟨h1, h2⟩)
          · exact ⟨.inl h.1, h.2⟩
          · exact ⟨.inr h1, h2⟩
        · rintro ⟨h1 | h1, h2⟩
          · exact .inl ⟨h1, h2⟩
          · exact .inr ⟨h1, h2⟩
  intro x
  have := key A.length x
  rwa [List.take_length] at this
theorem meet_same {B : List Sp} (hw : Wf B) (A : List Sp) : MP B A = MR B A :=
  wf_ext (MP_good B A).1 (by have := (MR_good B A A.length).1; rwa [List.take_length] at this) (fun x => by rw [MP_in hw A x, MR_in B A x])
end Go.Proofs.Ytnofclmnjhkhiaa
