/- Texts laid together: Krp Krt Kru. -/
import Derived.Test.YtiklpifaaogcpaaKde
import Derived.Test.YtiklpifaaogcpaaWz
import Derived.Test.YtiklpifaaogcpaaKb
import Derived.Test.YtiklpifaaogcpaaKl
import Derived.WalkKit
import Derived.WalkLawsBesides
import Derived.WalkSpells
import Derived.Below
import Derived.Deep.RegionHeld3
import Derived.Deep.QuietTactic
import Derived.BigQuiet
import Derived.Deep.DeepCutAuto
import Derived.Deep.DeepMust
import Derived.KernelRfl
import Derived.Lib.Hide
import Derived.Outline
import Derived.RegionTactic
import Derived.StillTailTactics
import Derived.Laws.IdiomStrings
import Derived.Handy
namespace Go.Proofs.Ytiklpifaaogcpaa
open Go.RowKit Go.Cl Go.Wr Go.Kc
set_option maxRecDepth 100000
set_option linter.unusedVariables false
set_option linter.unusedSimpArgs false


/-- The reference's reader: what it reads, and where it stands; an error stays. -/
def rt {α : Type} (a : α) : St → α × St := fun t => (a, t)
def bnd {α β : Type} (Y : St → α × St) (G : α → St → β × St) : St → β × St := fun t => G (Y t).1 (Y t).2
def rTx (s : List UInt8) (most : Int) : St → ByteArray × St := fun t => (⟨(rText s most t).1.toArray⟩, (rText s most t).2)
def rPin (s : List UInt8) : St → (Int × Int) × St := bnd (rNum s) fun lo => bnd (rNum s) fun hi => rt (lo, hi)
def rVal (s : List UInt8) : St → (Bool × ByteArray) × St := bnd (rBool s) fun h => if h then bnd (rTx s 256) fun d => rt (h, d) else rt (h, emp)
def rCount (s : List UInt8) : St → Int × St := bnd (rNum s) fun n t => if t.e = 0 then (if n < 1 ∨ 8 < n then (0, ⟨t.at_, 11⟩) else (n, t)) else (0, t)
def iter {α : Type} (one : St → α × St) : Nat → St → List α × St
  | 0, t => ([], t)
  | n + 1, t => ((iter one n t).1 ++ [(one (iter one n t).2).1], (one (iter one n t).2).2)
theorem iter_succ {α : Type} (one : St → α × St) : ∀ (n : Nat) (t : St), iter one (n + 1) t = ((one t).1 :: (iter one n (one t).2).1, (iter one n (one t).2).2)
  | 0, t => rfl
  | n + 1, t => by
    have := iter_succ one n t
    rw [iter, this]
    simp [iter]
theorem iter_len {α : Type} (one : St → α × St) : ∀ (n : Nat) (t : St), (iter one n t).1.length = n
  | 0, t => rfl
  | n + 1, t => by simp [iter, iter_len one n t]
def rElem (s : List UInt8) : St → Wt × St := bnd (rTx s 32) fun k => bnd (rVal s) fun v => rt ⟨k, v.1, v.2⟩
def rList {α : Type} (s : List UInt8) (one : St → α × St) : St → List α × St := bnd (rCount s) fun n => iter one n.toNat
def rFields (s : List UInt8) (m : Mg) : St → Mg × St :=
  if m.kind = 1 then bnd (rNum s) fun ses => bnd (rNum s) fun seq => bnd (rList s (rElem s)) fun W => rt { m with ses := ses, seq := seq, W := W }
  else if m.kind = 2 then bnd (rNum s) fun ses => bnd (rNum s) fun seq => bnd (rNum s) fun err => bnd (rNum s) fun n => rt { m with ses := ses, seq := seq, err := err, n := n }
  else if m.kind = 3 then bnd (rNum s) fun nd => bnd (rNum s) fun tx => bnd (rNum s) fun seq => bnd (rTx s 32) fun k => bnd (rPin s) fun p => rt { m with node := nd, tx := tx, seq := seq, key := k, lo := p.1, hi := p.2 }
  else if m.kind = 4 then bnd (rNum s) fun tx => bnd (rNum s) fun seq => bnd (rBool s) fun h => if h then bnd (rVal s) fun v => bnd (rPin s) fun p => rt { m with tx := tx, seq := seq, hit := h, has := v.1, data := v.2, lo := p.1, hi := p.2 } else rt { m with tx := tx, seq := seq, hit := h }
  else if m.kind = 5 then bnd (rNum s) fun tx => bnd (rNum s) fun seq => bnd (rTx s 32) fun k => bnd (rPin s) fun p => rt { m with tx := tx, seq := seq, key := k, lo := p.1, hi := p.2 }
  else if m.kind = 6 then bnd (rNum s) fun tx => bnd (rNum s) fun seq => bnd (rNum s) fun err => if err = 0 then bnd (rVal s) fun v => bnd (rPin s) fun p => rt { m with tx := tx, seq := seq, err := err, has := v.1, data := v.2, lo := p.1, hi := p.2 } else rt { m with tx := tx, seq := seq, err := err }
  else bnd (rNum s) fun nd =>
    if m.kind = 7 then bnd (rTx s 32) fun k => bnd (rVal s) fun v => bnd (rPin s) fun p => bnd (rNum s) fun n => rt { m with node := nd, key := k, has := v.1, data := v.2, lo := p.1, hi := p.2, n := n }
    else if m.kind = 8 then bnd (rNum s) fun n => bnd (rList s (rTx s 32)) fun K => rt { m with node := nd, n := n, K := K }
    else if m.kind = 9 then bnd (rNum s) fun n => rt { m with node := nd, n := n }
    else if m.kind = 10 then bnd (rNum s) fun i => rt { m with node := nd, inc := i }
    else bnd (rNum s) fun i => bnd (rNum s) fun n => rt { m with node := nd, inc := i, n := n }
/-- Reading that stops at an error, and reading that goes on and keeps it. -/
structure Sim {α : Type} (X : M Nat α) (Y : St → α × St) : Prop where
  ok : ∀ p a p', X p = (.ok a, p') → Y ⟨p, 0⟩ = (a, ⟨p', 0⟩)
  err : ∀ p e p', X p = (.error e, p') → e ≠ 0 ∧ (Y ⟨p, 0⟩).2.e = e
  stay : ∀ t : St, t.e ≠ 0 → (Y t).2.e = t.e
theorem Sim.ret {α : Type} (a : α) : Sim (M.ret a) (rt a) := by
  refine ⟨fun p b p' h => ?_, fun p e p' h => ?_, fun t _ => rfl⟩
  · have h : ((Except.ok a : Except Nat α), p) = (Except.ok b, p') := h
    simp only [Prod.mk.injEq, Except.ok.injEq] at h
    obtain ⟨rfl, rfl⟩ := h
    rfl
  · have h : ((Except.ok a : Except Nat α), p) = (Except.error e, p') := h
    simp at h
theorem Sim.bind {α β : Type} {X : M Nat α} {Y : St → α × St} {F : α → M Nat β} {G : α → St → β × St} (h : Sim X Y) (h' : ∀ a, Sim (F a) (G a)) : Sim (X.bind F) (bnd Y G) := by
  refine ⟨fun p a p' hx => ?_, fun p e p' hx => ?_, fun t ht => ?_⟩
  · unfold M.bind at hx
    cases hX : X p with
    | mk r q =>
      rw [hX] at hx
      cases r with
      | error e => cases hx
      | ok b =>
        unfold bnd
        rw [h.ok p b q hX]
        exact (h' b).ok q a p' hx
  · unfold M.bind at hx
    cases hX : X p with
    | mk r q =>
      rw [hX] at hx
      cases r with
      | error e' =>
        injection hx with h1 h2
        injection h1 with h1
        subst h1
        obtain ⟨g1, g2⟩ := h.err p e' q hX
        refine ⟨g1, ?_⟩
        unfold bnd
        rw [(h' _).stay _ (by rw [g2]; exact g1), g2]
      | ok b =>
        unfold bnd
        rw [h.ok p b q hX]
        exact (h' b).err q e p' hx
  · unfold bnd
    rw [(h' _).stay _ (by rw [h.stay t ht]; exact ht), h.stay t ht]
theorem Sim.by {α : Type} {X X' : M Nat α} {Y Y' : St → α × St} (he : X = X') (hy : Y = Y') (h : Sim X' Y') : Sim X Y := he ▸ hy ▸ h
theorem sim_of {α β : Type} {f : α → β} {Y : St → α × St} {X : M Nat β} (hX : ∀ p, X p = ofR f (Y ⟨p, 0⟩)) (hs : ∀ t : St, t.e ≠ 0 → (Y t).2.e = t.e) : Sim X (fun t => (f (Y t).1, (Y t).2)) := by
  refine ⟨fun p a p' h => ?_, fun p e p' h => ?_, hs⟩
  · rw [hX] at h
    unfold ofR at h
    generalize Y ⟨p, 0⟩ = r at *
    obtain ⟨a', ⟨q, e'⟩⟩ := r
    dsimp only at h ⊢
    injection h with h1 h2
    split at h1
    · injection h1 with h1
      subst h1 h2
      rename_i h3
      rw [h3]
    · cases h1
  · rw [hX] at h
    unfold ofR at h
    generalize Y ⟨p, 0⟩ = r at *
    obtain ⟨a', ⟨q, e'⟩⟩ := r
    dsimp only at h ⊢
    injection h with h1 h2
    split at h1
    · cases h1
    · injection h1 with h1
      subst h1
      rename_i h3
      exact ⟨h3, rfl⟩
theorem sim_num (s : List UInt8) (n0 : Int) : Sim ((inO s).num n0) (rNum s) := sim_of (f := id) (Y := rNum s) (fun _ => rfl) (fun t ht => by show (rNum s t).2.e = t.e; unfold rNum; rw [if_neg ht])
theorem sim_bool (s : List UInt8) (n0 : Bool) : Sim ((inO s).bool n0) (rBool s) := sim_of (f := id) (Y := rBool s) (fun _ => rfl) (fun t ht => by show (rBool s t).2.e = t.e; unfold rBool; rw [if_neg ht])
theorem sim_text (s : List UInt8) (n0 : ByteArray) (most : Int) : Sim ((inO s).text n0 most) (rTx s most) := sim_of (f := fun l : List UInt8 => (⟨l.toArray⟩ : ByteArray)) (Y := rText s most) (fun _ => rfl) (fun t ht => by unfold rText; rw [if_neg ht])
theorem sim_pin (s : List UInt8) (lo hi : Int) : Sim (pinT (inO s) lo hi) (rPin s) := Sim.bind (sim_num s lo) fun _ => Sim.bind (sim_num s hi) fun _ => Sim.ret _
theorem sim_val (s : List UInt8) : Sim (valueT (inO s) false emp) (rVal s) := by
  refine Sim.bind (sim_bool s false) fun h => ?_
  cases h
  · exact Sim.ret _
  · exact Sim.bind (sim_text s emp 256) fun _ => Sim.ret _
theorem sim_elem (s : List UInt8) : Sim (elemT (inO s) Wt.zero) (rElem s) := Sim.bind (sim_text s emp 32) fun _ => Sim.bind (sim_val s) fun _ => Sim.ret _
theorem sim_map {α : Type} {one : α → M Nat α} {z : α} {Y : St → α × St} (h : Sim (one z) Y) : ∀ n : Nat, Sim (mapT one (List.replicate n z)) (iter Y n)
  | 0 => Sim.ret _
  | n + 1 => by
    have e : iter Y (n + 1) = bnd Y fun y => bnd (iter Y n) fun l => rt (y :: l) := by
      funext t
      rw [iter_succ]
      rfl
    rw [e]
    exact Sim.bind h fun _ => Sim.bind (sim_map h n) fun _ => Sim.ret _
theorem sim_list {α : Type} (s : List UInt8) {one : α → M Nat α} {z : α} {Y : St → α × St} (h : Sim (one z) Y) : Sim (listT (inO s) one z []) (rList s Y) := by
  have e : rList s Y = bnd (rNum s) fun n t => if t.e = 0 then (if n < 1 ∨ 8 < n then ([], ⟨t.at_, 11⟩) else iter Y n.toNat t) else ([], t) := by
    funext t
    unfold rList rCount bnd
    dsimp only
    split
    · split
      · rfl
      · rfl
    · rfl
  rw [e]
  unfold listT
  refine Sim.bind (sim_num s _) fun n => ?_
  refine ⟨fun p a p' hx => ?_, fun p e p' hx => ?_, fun t ht => by rw [if_neg ht]⟩
  · rw [if_pos rfl]
    split at hx
    · cases hx
    · rename_i hn
      rw [if_neg hn]
      exact (sim_map h n.toNat).ok p a p' hx
  · rw [if_pos rfl]
    split at hx
    · rename_i hn
      rw [if_pos hn]
      injection hx with h1 h2
      injection h1 with h1
      subst h1
      exact ⟨by decide, rfl⟩
    · rename_i hn
      rw [if_neg hn]
      exact (sim_map h n.toNat).err p e p' hx
def mz (k : Int) : Mg := { Mg.zero with kind := k }
theorem Sim.ite {α : Type} {c : Prop} [Decidable c] {X X' : M Nat α} {Y Y' : St → α × St} (h : Sim X Y) (h' : Sim X' Y') : Sim (if c then X else X') (if c then Y else Y') := by split <;> assumption
theorem xf_1 (s : List UInt8) : fieldsT (inO s) (mz 1) = ((inO s).num 0).bind fun ses => ((inO s).num 0).bind fun seq => (listT (inO s) (elemT (inO s)) Wt.zero []).bind fun W => M.ret ({ mz 1 with ses := ses, seq := seq, W := W } : Mg) := by
  rw [fields_1 _ _ rfl]
  rfl
theorem rf_1 (s : List UInt8) : rFields s (mz 1) = bnd (rNum s) fun ses => bnd (rNum s) fun seq => bnd (rList s (rElem s)) fun W => rt ({ mz 1 with ses := ses, seq := seq, W := W } : Mg) := by
  unfold rFields
  simp only [show (mz 1).kind = 1 from rfl]
  rfl
theorem sf_1 (s : List UInt8) : Sim (fieldsT (inO s) (mz 1)) (rFields s (mz 1)) := Sim.by (xf_1 s) (rf_1 s) (Sim.bind (sim_num s 0) fun ses => Sim.bind (sim_num s 0) fun seq => Sim.bind (sim_list s (sim_elem s)) fun W => Sim.ret _)
theorem xf_2 (s : List UInt8) : fieldsT (inO s) (mz 2) = ((inO s).num 0).bind fun ses => ((inO s).num 0).bind fun seq => ((inO s).num 0).bind fun err => ((inO s).num 0).bind fun n => M.ret ({ mz 2 with ses := ses, seq := seq, err := err, n := n } : Mg) := by
  rw [fields_2 _ _ rfl]
  rfl
theorem rf_2 (s : List UInt8) : rFields s (mz 2) = bnd (rNum s) fun ses => bnd (rNum s) fun seq => bnd (rNum s) fun err => bnd (rNum s) fun n => rt ({ mz 2 with ses := ses, seq := seq, err := err, n := n } : Mg) := by
  unfold rFields
  simp only [show (mz 2).kind = 2 from rfl]
  rfl
theorem sf_2 (s : List UInt8) : Sim (fieldsT (inO s) (mz 2)) (rFields s (mz 2)) := Sim.by (xf_2 s) (rf_2 s) (Sim.bind (sim_num s 0) fun ses => Sim.bind (sim_num s 0) fun seq => Sim.bind (sim_num s 0) fun err => Sim.bind (sim_num s 0) fun n => Sim.ret _)
theorem xf_3 (s : List UInt8) : fieldsT (inO s) (mz 3) = ((inO s).num 0).bind fun nd => ((inO s).num 0).bind fun tx => ((inO s).num 0).bind fun seq => ((inO s).text emp 32).bind fun k => (pinT (inO s) 0 0).bind fun p => M.ret ({ mz 3 with node := nd, tx := tx, seq := seq, key := k, lo := p.1, hi := p.2 } : Mg) := by
  rw [fields_3 _ _ rfl]
  congr 1; funext nd
  unfold askedT
  rw [bind_assoc]
  congr 1; funext tx
  rw [bind_assoc]
  rfl
theorem rf_3 (s : List UInt8) : rFields s (mz 3) = bnd (rNum s) fun nd => bnd (rNum s) fun tx => bnd (rNum s) fun seq => bnd (rTx s 32) fun k => bnd (rPin s) fun p => rt ({ mz 3 with node := nd, tx := tx, seq := seq, key := k, lo := p.1, hi := p.2 } : Mg) := by
  unfold rFields
  simp only [show (mz 3).kind = 3 from rfl]
  rfl
theorem sf_3 (s : List UInt8) : Sim (fieldsT (inO s) (mz 3)) (rFields s (mz 3)) := Sim.by (xf_3 s) (rf_3 s) (Sim.bind (sim_num s 0) fun nd => Sim.bind (sim_num s 0) fun tx => Sim.bind (sim_num s 0) fun seq => Sim.bind (sim_text s emp 32) fun k => Sim.bind (sim_pin s 0 0) fun p => Sim.ret _)
theorem xf_4 (s : List UInt8) : fieldsT (inO s) (mz 4) = ((inO s).num 0).bind fun tx => ((inO s).num 0).bind fun seq => ((inO s).bool false).bind fun h => if h then (valueT (inO s) false emp).bind fun v => (pinT (inO s) 0 0).bind fun p => M.ret ({ mz 4 with tx := tx, seq := seq, hit := h, has := v.1, data := v.2, lo := p.1, hi := p.2 } : Mg) else M.ret ({ mz 4 with tx := tx, seq := seq, hit := h } : Mg) := by
  rw [fields_4 _ _ rfl]
  unfold askedT
  rw [bind_assoc]
  congr 1; funext tx
  rw [bind_assoc]
  rfl
theorem rf_4 (s : List UInt8) : rFields s (mz 4) = bnd (rNum s) fun tx => bnd (rNum s) fun seq => bnd (rBool s) fun h => if h then bnd (rVal s) fun v => bnd (rPin s) fun p => rt ({ mz 4 with tx := tx, seq := seq, hit := h, has := v.1, data := v.2, lo := p.1, hi := p.2 } : Mg) else rt ({ mz 4 with tx := tx, seq := seq, hit := h } : Mg) := by
  unfold rFields
  simp only [show (mz 4).kind = 4 from rfl]
  rfl
theorem sf_4 (s : List UInt8) : Sim (fieldsT (inO s) (mz 4)) (rFields s (mz 4)) := Sim.by (xf_4 s) (rf_4 s) (Sim.bind (sim_num s 0) fun tx => Sim.bind (sim_num s 0) fun seq => Sim.bind (sim_bool s false) fun h => Sim.ite (Sim.bind (sim_val s) fun _ => Sim.bind (sim_pin s 0 0) fun _ => Sim.ret _) (Sim.ret _))
theorem xf_5 (s : List UInt8) : fieldsT (inO s) (mz 5) = ((inO s).num 0).bind fun tx => ((inO s).num 0).bind fun seq => ((inO s).text emp 32).bind fun k => (pinT (inO s) 0 0).bind fun p => M.ret ({ mz 5 with tx := tx, seq := seq, key := k, lo := p.1, hi := p.2 } : Mg) := by
  rw [fields_5 _ _ rfl]
  unfold askedT
  rw [bind_assoc]
  congr 1; funext tx
  rw [bind_assoc]
  rfl
theorem rf_5 (s : List UInt8) : rFields s (mz 5) = bnd (rNum s) fun tx => bnd (rNum s) fun seq => bnd (rTx s 32) fun k => bnd (rPin s) fun p => rt ({ mz 5 with tx := tx, seq := seq, key := k, lo := p.1, hi := p.2 } : Mg) := by
  unfold rFields
  simp only [show (mz 5).kind = 5 from rfl]
  rfl
theorem sf_5 (s : List UInt8) : Sim (fieldsT (inO s) (mz 5)) (rFields s (mz 5)) := Sim.by (xf_5 s) (rf_5 s) (Sim.bind (sim_num s 0) fun tx => Sim.bind (sim_num s 0) fun seq => Sim.bind (sim_text s emp 32) fun k => Sim.bind (sim_pin s 0 0) fun p => Sim.ret _)
theorem xf_6 (s : List UInt8) : fieldsT (inO s) (mz 6) = ((inO s).num 0).bind fun tx => ((inO s).num 0).bind fun seq => ((inO s).num 0).bind fun err => if err = 0 then (valueT (inO s) false emp).bind fun v => (pinT (inO s) 0 0).bind fun p => M.ret ({ mz 6 with tx := tx, seq := seq, err := err, has := v.1, data := v.2, lo := p.1, hi := p.2 } : Mg) else M.ret ({ mz 6 with tx := tx, seq := seq, err := err } : Mg) := by
  rw [fields_6 _ _ rfl]
  unfold askedT
  rw [bind_assoc]
  congr 1; funext tx
  rw [bind_assoc]
  rfl
theorem rf_6 (s : List UInt8) : rFields s (mz 6) = bnd (rNum s) fun tx => bnd (rNum s) fun seq => bnd (rNum s) fun err => if err = 0 then bnd (rVal s) fun v => bnd (rPin s) fun p => rt ({ mz 6 with tx := tx, seq := seq, err := err, has := v.1, data := v.2, lo := p.1, hi := p.2 } : Mg) else rt ({ mz 6 with tx := tx, seq := seq, err := err } : Mg) := by
  unfold rFields
  simp only [show (mz 6).kind = 6 from rfl]
  rfl
theorem sf_6 (s : List UInt8) : Sim (fieldsT (inO s) (mz 6)) (rFields s (mz 6)) := Sim.by (xf_6 s) (rf_6 s) (Sim.bind (sim_num s 0) fun tx => Sim.bind (sim_num s 0) fun seq => Sim.bind (sim_num s 0) fun err => Sim.ite (Sim.bind (sim_val s) fun _ => Sim.bind (sim_pin s 0 0) fun _ => Sim.ret _) (Sim.ret _))
theorem xf_7 (s : List UInt8) : fieldsT (inO s) (mz 7) = ((inO s).num 0).bind fun nd => ((inO s).text emp 32).bind fun k => (valueT (inO s) false emp).bind fun v => (pinT (inO s) 0 0).bind fun p => ((inO s).num 0).bind fun n => M.ret ({ mz 7 with node := nd, key := k, has := v.1, data := v.2, lo := p.1, hi := p.2, n := n } : Mg) := by
  rw [(fields_0 _ _ (by decide) (by decide) (by decide) (by decide) (by decide) (by decide)).trans (told_7 _ _ rfl)]
  rfl
theorem rf_7 (s : List UInt8) : rFields s (mz 7) = bnd (rNum s) fun nd => bnd (rTx s 32) fun k => bnd (rVal s) fun v => bnd (rPin s) fun p => bnd (rNum s) fun n => rt ({ mz 7 with node := nd, key := k, has := v.1, data := v.2, lo := p.1, hi := p.2, n := n } : Mg) := by
  unfold rFields
  simp only [show (mz 7).kind = 7 from rfl]
  rfl
theorem sf_7 (s : List UInt8) : Sim (fieldsT (inO s) (mz 7)) (rFields s (mz 7)) := Sim.by (xf_7 s) (rf_7 s) (Sim.bind (sim_num s 0) fun nd => Sim.bind (sim_text s emp 32) fun k => Sim.bind (sim_val s) fun v => Sim.bind (sim_pin s 0 0) fun p => Sim.bind (sim_num s 0) fun n => Sim.ret _)
theorem xf_8 (s : List UInt8) : fieldsT (inO s) (mz 8) = ((inO s).num 0).bind fun nd => ((inO s).num 0).bind fun n => (listT (inO s) (keyT (inO s)) emp []).bind fun K => M.ret ({ mz 8 with node := nd, n := n, K := K } : Mg) := by
  rw [(fields_0 _ _ (by decide) (by decide) (by decide) (by decide) (by decide) (by decide)).trans (told_8 _ _ rfl)]
  rfl
theorem rf_8 (s : List UInt8) : rFields s (mz 8) = bnd (rNum s) fun nd => bnd (rNum s) fun n => bnd (rList s (rTx s 32)) fun K => rt ({ mz 8 with node := nd, n := n, K := K } : Mg) := by
  unfold rFields
  simp only [show (mz 8).kind = 8 from rfl]
  rfl
theorem sf_8 (s : List UInt8) : Sim (fieldsT (inO s) (mz 8)) (rFields s (mz 8)) := Sim.by (xf_8 s) (rf_8 s) (Sim.bind (sim_num s 0) fun nd => Sim.bind (sim_num s 0) fun n => Sim.bind (sim_list s (sim_text s emp 32)) fun K => Sim.ret _)
theorem xf_9 (s : List UInt8) : fieldsT (inO s) (mz 9) = ((inO s).num 0).bind fun nd => ((inO s).num 0).bind fun n => M.ret ({ mz 9 with node := nd, n := n } : Mg) := by
  rw [(fields_0 _ _ (by decide) (by decide) (by decide) (by decide) (by decide) (by decide)).trans (told_9 _ _ rfl)]
  rfl
theorem rf_9 (s : List UInt8) : rFields s (mz 9) = bnd (rNum s) fun nd => bnd (rNum s) fun n => rt ({ mz 9 with node := nd, n := n } : Mg) := by
  unfold rFields
  simp only [show (mz 9).kind = 9 from rfl]
  rfl
theorem sf_9 (s : List UInt8) : Sim (fieldsT (inO s) (mz 9)) (rFields s (mz 9)) := Sim.by (xf_9 s) (rf_9 s) (Sim.bind (sim_num s 0) fun nd => Sim.bind (sim_num s 0) fun n => Sim.ret _)
theorem xf_10 (s : List UInt8) : fieldsT (inO s) (mz 10) = ((inO s).num 0).bind fun nd => ((inO s).num 0).bind fun i => M.ret ({ mz 10 with node := nd, inc := i } : Mg) := by
  rw [(fields_0 _ _ (by decide) (by decide) (by decide) (by decide) (by decide) (by decide)).trans (told_10 _ _ rfl)]
  rfl
theorem rf_10 (s : List UInt8) : rFields s (mz 10) = bnd (rNum s) fun nd => bnd (rNum s) fun i => rt ({ mz 10 with node := nd, inc := i } : Mg) := by
  unfold rFields
  simp only [show (mz 10).kind = 10 from rfl]
  rfl
theorem sf_10 (s : List UInt8) : Sim (fieldsT (inO s) (mz 10)) (rFields s (mz 10)) := Sim.by (xf_10 s) (rf_10 s) (Sim.bind (sim_num s 0) fun nd => Sim.bind (sim_num s 0) fun i => Sim.ret _)
theorem xf_11 (s : List UInt8) : fieldsT (inO s) (mz 11) = ((inO s).num 0).bind fun nd => ((inO s).num 0).bind fun i => ((inO s).num 0).bind fun n => M.ret ({ mz 11 with node := nd, inc := i, n := n } : Mg) := by
  rw [(fields_0 _ _ (by decide) (by decide) (by decide) (by decide) (by decide) (by decide)).trans (told_11 _ _ rfl)]
  rfl
theorem rf_11 (s : List UInt8) : rFields s (mz 11) = bnd (rNum s) fun nd => bnd (rNum s) fun i => bnd (rNum s) fun n => rt ({ mz 11 with node := nd, inc := i, n := n } : Mg) := by
  unfold rFields
  simp only [show (mz 11).kind = 11 from rfl]
  rfl
theorem sf_11 (s : List UInt8) : Sim (fieldsT (inO s) (mz 11)) (rFields s (mz 11)) := Sim.by (xf_11 s) (rf_11 s) (Sim.bind (sim_num s 0) fun nd => Sim.bind (sim_num s 0) fun i => Sim.bind (sim_num s 0) fun n => Sim.ret _)
theorem sim_fields (s : List UInt8) (k : Int) (h1 : 1 ≤ k) (h11 : k ≤ 11) : Sim (fieldsT (inO s) (mz k)) (rFields s (mz k)) := by
  obtain rfl | rfl | rfl | rfl | rfl | rfl | rfl | rfl | rfl | rfl | rfl := (by omega : k = 1 ∨ k = 2 ∨ k = 3 ∨ k = 4 ∨ k = 5 ∨ k = 6 ∨ k = 7 ∨ k = 8 ∨ k = 9 ∨ k = 10 ∨ k = 11)
  · exact sf_1 s
  · exact sf_2 s
  · exact sf_3 s
  · exact sf_4 s
  · exact sf_5 s
  · exact sf_6 s
  · exact sf_7 s
  · exact sf_8 s
  · exact sf_9 s
  · exact sf_10 s
  · exact sf_11 s
/-- What the reference's Decode answers. -/
noncomputable def refdec (s : List UInt8) : Mg × Int :=
  if (rNum s ⟨0, 0⟩).2.e ≠ 0 then (Mg.zero, (rNum s ⟨0, 0⟩).2.e)
  else if ¬ (1 ≤ (rNum s ⟨0, 0⟩).1 ∧ (rNum s ⟨0, 0⟩).1 ≤ 11) then (Mg.zero, 13)
  else if rEnd s (rFields s (mz (rNum s ⟨0, 0⟩).1) (rNum s ⟨0, 0⟩).2).2 ≠ 0 then (Mg.zero, rEnd s (rFields s (mz (rNum s ⟨0, 0⟩).1) (rNum s ⟨0, 0⟩).2).2)
  else if chkM (rFields s (mz (rNum s ⟨0, 0⟩).1) (rNum s ⟨0, 0⟩).2).1 ≠ 0 then (Mg.zero, chkM (rFields s (mz (rNum s ⟨0, 0⟩).1) (rNum s ⟨0, 0⟩).2).1)
  else ((rFields s (mz (rNum s ⟨0, 0⟩).1) (rNum s ⟨0, 0⟩).2).1, 0)
theorem refdec_is (s : List UInt8) : refdec s = match decode s with | .ok m => (m, 0) | .error e => (Mg.zero, e) := by
  unfold refdec decode
  have hs := sim_num s 0
  cases hX : (inO s).num 0 0 with
  | mk r q =>
    cases r with
    | error e =>
      obtain ⟨g1, g2⟩ := hs.err 0 e q hX
      simp only [g2, if_pos g1]
    | ok k =>
      have g := hs.ok 0 k q hX
      simp only [g]
      rw [if_neg (by simp)]
      by_cases hk : 1 ≤ k ∧ k ≤ 11
      · rw [if_neg (by simpa using hk)]
        simp only [if_pos hk]
        have hf := sim_fields s k hk.1 hk.2
        show _ = (match (match fieldsT (inO s) (mz k) q with
          | (.error e, _) => .error (e : Int)
          | (.ok m, p') => if rEnd s ⟨p', 0⟩ ≠ 0 then .error ((rEnd s ⟨p', 0⟩ : Nat) : Int) else if chkM m ≠ 0 then .error (chkM m) else .ok m : Except Int Mg) with | .ok m => (m, 0) | .error e => (Mg.zero, e))
        cases hF : fieldsT (inO s) (mz k) q with
        | mk r q' =>
          cases r with
          | error e =>
            obtain ⟨g1, g2⟩ := hf.err q e q' hF
            have h3 : rEnd s (rFields s (mz k) ⟨q, 0⟩).2 = e := by unfold rEnd; rw [if_neg (by rw [g2]; exact g1), g2]
            rw [h3, if_pos g1]
          | ok m =>
            have g2 := hf.ok q m q' hF
            simp only [g2]
            split
            · rfl
            · split
              · rfl
              · rfl
      · rw [if_pos hk]
        simp only [if_neg hk]

end Go.Proofs.Ytiklpifaaogcpaa

namespace Go.Proofs.Ytiklpifaaogcpaa
open Go.RowKit Go.Cl Go.Wr Go.Kc
set_option maxRecDepth 100000
set_option linter.unusedVariables false
set_option linter.unusedSimpArgs false


theorem Ch.repaint {col : Nat → Nat} {i j : Nat} {w w1 w2 : World} (hb : Below w.heap.size w w1) (h : Ch (paint col w j) i w1 w2) : Ch col i w w2 :=
  ⟨h.os.trans hb.os, h.tape.trans hb.tape, h.output.trans hb.output, Nat.le_trans hb.size h.size, fun k hk hc => (h.block k (Nat.lt_of_lt_of_le hk hb.size) (by rw [paint_old hk]; exact hc)).trans (hb.block k hk)⟩
theorem Rds.recol {T : Nat} {col col' : Nat → Nat} {i : Nat} {w : World} {b : Nat} {s : ByteArray} {t : St} (h : Rds T col i w b s t) (hc : col' b = i) : Rds T col' i w b s t := ⟨⟨h.blk.hp, hc⟩, h.ok, h.len⟩
theorem r_take (col : Nat → Nat) (i : Nat) (w : World) (b : Nat) (s : ByteArray) (t : St) (h : Rds 88 col i w b s t) :
    Calls Try.prog 42 #[.pointer (some ⟨b, 0, none⟩)] w fun e w' => e = .returned (.int .i64 (rNum s.data.toList t).1) ∧ Rds 88 (paint col w i) i w' b s (rNum s.data.toList t).2 ∧ Ch col i w w' := by
  have H := Lib.hid (rr_num col i w b s t h)
  clear h
  generalize rNum s.data.toList t = r at *
  go_enter Try.func42, Try.ntmps42
  go_wp2_with fail
  refine H.out.mono ?_; rintro e w1 ⟨rfl, hr, hC⟩
  go_wp2
  go_ret
  exact ⟨rfl, hr, hC⟩
set_option maxHeartbeats 1000000 in
theorem r_pin (col : Nat → Nat) (i : Nat) (w : World) (b : Nat) (s : ByteArray) (t : St) (h : Rds 88 col i w b s t) :
    Calls Try.prog 46 #[.pointer (some ⟨b, 0, none⟩)] w fun e w' => e = .returned (.agg #[.int .i64 (rPin s.data.toList t).1.1, .int .i64 (rPin s.data.toList t).1.2]) ∧ Rds 88 (paint col w i) i w' b s (rPin s.data.toList t).2 ∧ Ch col i w w' := by
  obtain ⟨cs, hcs⟩ : ∃ cs : Array Value, cs = #[.int .i64 0, .int .i64 0] := ⟨_, rfl⟩
  have hb0 : Below w.heap.size w (w.alloc (.cells cs 23)) := below_alloc (Below.refl _ _) _
  have hz0 := hp_alloc_new w (.cells cs 23)
  have hbl := hp_lt h.blk.hp
  have hbc := h.blk.col
  have h1 : Rds 88 (paint col w (i + 1)) i (w.alloc (.cells cs 23)) b s t := (h.below hb0).recol (by rw [paint_old hbl]; exact hbc)
  have hg1 : paint col w (i + 1) w.heap.size = i + 1 := paint_new (Nat.le_refl _)
  have HN := Lib.hid (rr_num _ i _ b s t h1)
  subst hcs
  have HH := Lib.hid (And.intro hb0 (And.intro hz0 (And.intro hbl (And.intro hbc hg1))))
  clear h hb0 hz0 hbl hbc hg1 h1
  go_enter Try.func46, Try.ntmps46
  go_wp2_with fail
  refine HN.out.mono ?_; rintro e w1 ⟨rfl, hr1, hC1⟩
  have hlt := hp_lt HH.out.2.1
  have hz1 := hp_ch HH.out.2.1 hC1 (by rw [HH.out.2.2.2.2]; omega)
  have HN2 := Lib.hid (rr_num _ i _ b s _ hr1)
  have H1 := Lib.hid (And.intro hC1 (And.intro hlt hz1))
  clear hC1 hlt hz1 hr1
  go_wp2_with fail
  refine HN2.out.mono ?_; rintro e w2 ⟨rfl, hr2, hC2⟩
  have hz2 := hp_ch H1.out.2.2 hC2 (by rw [paint_old H1.out.2.1, HH.out.2.2.2.2]; omega)
  have hc2 := hp_cell hz2
  have hf2 := hp_free hz2
  have H2 := Lib.hid (And.intro hC2 (And.intro hr2 hz2))
  clear hC2 hr2 hz2
  go_wp2
  have hz3 := hp_set (hp_set H2.out.2.2 (i := 0) (.int .i64 (rNum s.data.toList t).1)) (i := 1) (.int .i64 (rNum s.data.toList (rNum s.data.toList t).2).1)
  have hc3 := hp_cell hz3
  refine bodyPost_ret (v := .agg #[.int .i64 (rNum s.data.toList t).1, .int .i64 (rNum s.data.toList (rNum s.data.toList t).2).1]) (by simp [results, Try.results46, go_sem, hc3]) rfl ⟨rfl, ?_, ?_⟩
  · have hne : b ≠ w.heap.size := by have := HH.out.2.2.1; omega
    exact ⟨⟨hp_set_ne (hp_set_ne H2.out.2.1.blk.hp (p := ⟨w.heap.size, 0, none⟩) hne _) (p := ⟨w.heap.size, 1, none⟩) hne _, paint_of HH.out.2.2.2.1⟩, H2.out.2.1.ok, H2.out.2.1.len⟩
  · exact ((Ch.repaint HH.out.1 (H1.out.1.trans H2.out.1)).setCell (p := ⟨w.heap.size, 0, none⟩) (paint_new (Nat.le_refl _)) _).setCell (p := ⟨w.heap.size, 1, none⟩) (paint_new (Nat.le_refl _)) _

set_option maxHeartbeats 1000000 in
theorem r_count (col : Nat → Nat) (i : Nat) (w : World) (b : Nat) (s : ByteArray) (t : St) (h : Rds 88 col i w b s t) :
    Calls Try.prog 48 #[.pointer (some ⟨b, 0, none⟩)] w fun e w' => e = .returned (.int .i64 (rCount s.data.toList t).1) ∧ Rds 88 (paint col w i) i w' b s (rCount s.data.toList t).2 ∧ Ch col i w w' := by
  have H := Lib.hid (rr_num col i w b s t h)
  have hpc : paint col w i b = i := paint_of h.blk.col
  clear h
  have e1 : rCount s.data.toList t = if (rNum s.data.toList t).2.e = 0 then (if (rNum s.data.toList t).1 < 1 ∨ 8 < (rNum s.data.toList t).1 then (0, ⟨(rNum s.data.toList t).2.at_, 11⟩) else ((rNum s.data.toList t).1, (rNum s.data.toList t).2)) else (0, (rNum s.data.toList t).2) := rfl
  rw [e1]
  clear e1
  generalize rNum s.data.toList t = r at *
  obtain ⟨n, ⟨a, e⟩⟩ := r
  dsimp only at H ⊢
  by_cases he : e = 0
  · subst he
    by_cases hn : n < 1 ∨ 8 < n
    · have e2 : (if (0 : Nat) = 0 then (if n < 1 ∨ 8 < n then ((0 : Int), (⟨a, 11⟩ : St)) else (n, ⟨a, 0⟩)) else (0, ⟨a, 0⟩)) = (0, ⟨a, 11⟩) := by rw [if_pos rfl, if_pos hn]
      rw [e2]
      clear e2
      go_enter Try.func48, Try.ntmps48
      go_wp2_with fail
      refine H.out.mono ?_; rintro e w1 ⟨rfl, hr, hC⟩
      have hc := hp_cell hr.blk.hp
      have hf := hp_free hr.blk.hp
      have HR := Lib.hid (And.intro hr (And.intro hC hpc))
      clear hr hC hpc
      rcases hn with hn | hn
      · go_wp2
        all_goals go_ret
        all_goals exact ⟨rfl, ⟨⟨hp_set (i := 2) HR.out.1.blk.hp _, HR.out.2.2⟩, ⟨HR.out.1.ok.at_, by simp⟩, HR.out.1.len⟩, HR.out.2.1.setCell (p := ⟨b, 2, none⟩) HR.out.2.2 _⟩
      · have hn1 : ¬ n < 1 := by omega
        go_wp2
        all_goals go_ret
        all_goals exact ⟨rfl, ⟨⟨hp_set (i := 2) HR.out.1.blk.hp _, HR.out.2.2⟩, ⟨HR.out.1.ok.at_, by simp⟩, HR.out.1.len⟩, HR.out.2.1.setCell (p := ⟨b, 2, none⟩) HR.out.2.2 _⟩
    · have e2 : (if (0 : Nat) = 0 then (if n < 1 ∨ 8 < n then ((0 : Int), (⟨a, 11⟩ : St)) else (n, ⟨a, 0⟩)) else (0, ⟨a, 0⟩)) = (n, ⟨a, 0⟩) := by rw [if_pos rfl, if_neg hn]
      rw [e2]
      clear e2
      go_enter Try.func48, Try.ntmps48
      go_wp2_with fail
      refine H.out.mono ?_; rintro e w1 ⟨rfl, hr, hC⟩
      have hc := hp_cell hr.blk.hp
      have hf := hp_free hr.blk.hp
      have HR := Lib.hid (And.intro hr (And.intro hC hpc))
      clear hr hC hpc
      have hn1 : ¬ n < 1 := by omega
      have hn2 : ¬ 8 < n := by omega
      clear hn
      go_wp2
      all_goals go_ret
      all_goals exact ⟨rfl, HR.out.1, HR.out.2.1⟩
  · have e2 : (if e = 0 then (if n < 1 ∨ 8 < n then ((0 : Int), (⟨a, 11⟩ : St)) else (n, ⟨a, e⟩)) else (0, ⟨a, e⟩)) = (0, ⟨a, e⟩) := if_neg he
    rw [e2]
    clear e2
    have he1 : ((e : Int) == 0) = false := by simpa using he
    have he2 : ((e : Int) != 0) = true := by simpa using he
    clear he
    go_enter Try.func48, Try.ntmps48
    go_wp2_with fail
    refine H.out.mono ?_; rintro e w1 ⟨rfl, hr, hC⟩
    have hc := hp_cell hr.blk.hp
    have hf := hp_free hr.blk.hp
    have HR := Lib.hid (And.intro hr (And.intro hC hpc))
    clear hr hC hpc
    go_wp2
    all_goals go_ret
    all_goals exact ⟨rfl, HR.out.1, HR.out.2.1⟩

set_option maxHeartbeats 1000000 in
theorem r_val (col : Nat → Nat) (i : Nat) (w : World) (b : Nat) (s : ByteArray) (t : St) (h : Rds 88 col i w b s t) :
    Calls Try.prog 45 #[.pointer (some ⟨b, 0, none⟩)] w fun e w' => e = .returned (.agg #[.bool (rVal s.data.toList t).1.1, .string (rVal s.data.toList t).1.2]) ∧ Rds 88 (paint col w i) i w' b s (rVal s.data.toList t).2 ∧ Ch col i w w' := by
  obtain ⟨cs, hcs⟩ : ∃ cs : Array Value, cs = #[.bool false, .string ⟨#[]⟩] := ⟨_, rfl⟩
  have hb0 : Below w.heap.size w (w.alloc (.cells cs 25)) := below_alloc (Below.refl _ _) _
  have hz0 := hp_alloc_new w (.cells cs 25)
  have hbl := hp_lt h.blk.hp
  have hbc := h.blk.col
  have h1 : Rds 88 (paint col w (i + 1)) i (w.alloc (.cells cs 25)) b s t := (h.below hb0).recol (by rw [paint_old hbl]; exact hbc)
  have hg1 : paint col w (i + 1) w.heap.size = i + 1 := paint_new (Nat.le_refl _)
  have HN := Lib.hid (rr_bool _ i _ b s t h1)
  have HH := Lib.hid (And.intro hb0 (And.intro hz0 (And.intro hbl (And.intro hbc hg1))))
  clear h hb0 hz0 hbl hbc hg1 h1
  have e1 : rVal s.data.toList t = if (rBool s.data.toList t).1 then ((true, ⟨(rText s.data.toList 256 (rBool s.data.toList t).2).1.toArray⟩), (rText s.data.toList 256 (rBool s.data.toList t).2).2) else ((false, emp), (rBool s.data.toList t).2) := by
    unfold rVal bnd
    cases (rBool s.data.toList t).1 <;> rfl
  rw [e1]
  clear e1
  generalize rBool s.data.toList t = r at *
  obtain ⟨h, t1⟩ := r
  dsimp only at HN ⊢
  subst hcs
  cases h
  · rw [if_neg (by decide)]
    go_enter Try.func45, Try.ntmps45
    go_wp2_with fail
    refine HN.out.mono ?_; rintro e w1 ⟨rfl, hr1, hC1⟩
    have hlt := hp_lt HH.out.2.1
    have hz1 := hp_ch HH.out.2.1 hC1 (by rw [HH.out.2.2.2.2]; omega)
    have hz2 := hp_alloc_old hz1 (.cells #[.bool false, .string ⟨#[]⟩] 25)
    have hc2 := hp_cell hz2
    have hf2 := hp_free hz2
    have hzn := hp_alloc_new w1 (.cells #[.bool false, .string ⟨#[]⟩] 25)
    have hcn := hp_cell hzn
    have HR := Lib.hid (And.intro hr1 (And.intro hC1 hz2))
    clear hr1 hC1 hz1 hz2 hzn
    go_wp2
    have hz3 := hp_set (hp_set HR.out.2.2 (i := 0) (.bool false)) (i := 1) (.string ⟨#[]⟩)
    have hc3 := hp_cell hz3
    refine bodyPost_ret (v := .agg #[.bool false, .string ⟨#[]⟩]) (by simp [results, Try.results45, go_sem, hc3]) rfl ⟨rfl, ?_, ?_⟩
    · have hne : b ≠ w.heap.size := by have := HH.out.2.2.1; omega
      exact ⟨⟨hp_set_ne (hp_set_ne (hp_alloc_old HR.out.1.blk.hp _) (p := ⟨w.heap.size, 0, none⟩) hne _) (p := ⟨w.heap.size, 1, none⟩) hne _, paint_of HH.out.2.2.2.1⟩, HR.out.1.ok, HR.out.1.len⟩
    · exact (((Ch.repaint HH.out.1 HR.out.2.1).alloc _).setCell (p := ⟨w.heap.size, 0, none⟩) (paint_new (Nat.le_refl _)) _).setCell (p := ⟨w.heap.size, 1, none⟩) (paint_new (Nat.le_refl _)) _
  · rw [if_pos rfl]
    go_enter Try.func45, Try.ntmps45
    go_wp2_with fail
    refine HN.out.mono ?_; rintro e w1 ⟨rfl, hr1, hC1⟩
    have hlt := hp_lt HH.out.2.1
    have hz1 := hp_ch HH.out.2.1 hC1 (by rw [HH.out.2.2.2.2]; omega)
    obtain ⟨cA, hcA⟩ : ∃ cA : Nat → Nat, cA = paint (paint col w (i + 1)) (w.alloc (.cells #[.bool false, .string ⟨#[]⟩] 25)) i := ⟨_, rfl⟩
    rw [← hcA] at hr1
    have hbB : Below w1.heap.size w1 (w1.alloc (.cells #[.bool true, .string ⟨#[]⟩] 25)) := below_alloc (Below.refl _ _) _
    have hzB := hp_alloc_new w1 (.cells #[.bool true, .string ⟨#[]⟩] 25)
    have hrB : Rds 88 (paint cA w1 (i + 1)) i (w1.alloc (.cells #[.bool true, .string ⟨#[]⟩] 25)) b s t1 := (hr1.below hbB).recol (by rw [paint_old (hp_lt hr1.blk.hp)]; exact hr1.blk.col)
    have HT := Lib.hid (rr_text _ i _ b s t1 hrB 256)
    have hlt1 := hp_lt hz1
    have hz1B := hp_alloc_old hz1 (.cells #[.bool true, .string ⟨#[]⟩] 25)
    have hgA : cA w.heap.size = i + 1 := by rw [hcA, paint_old hlt]; exact HH.out.2.2.2.2
    have HB := Lib.hid (And.intro hbB (And.intro hzB (And.intro hlt1 (And.intro hz1B (And.intro hgA (And.intro hC1 hcA))))))
    clear hbB hzB hrB hlt1 hz1B hgA hr1 hC1 hz1 hlt hcA
    go_wp2_with fail
    refine HT.out.mono ?_; rintro e w2 ⟨rfl, hr2, hC2⟩
    have hz3 := hp_ch HB.out.2.1 hC2 (by rw [paint_new (Nat.le_refl _)]; omega)
    have hz4 := hp_ch HB.out.2.2.2.1 hC2 (by rw [paint_old HB.out.2.2.1, HB.out.2.2.2.2.1]; omega)
    have hc3 := hp_cell hz3
    have hf3 := hp_free hz3
    have hc4 := hp_cell hz4
    have hf4 := hp_free hz4
    have hn1 : ¬ w.heap.size = w1.heap.size := by have := HB.out.2.2.1; omega
    have hn2 : ¬ w1.heap.size = w.heap.size := by have := HB.out.2.2.1; omega
    have HR := Lib.hid (And.intro hr2 (And.intro hC2 (And.intro hz3 hz4)))
    clear hr2 hC2 hz3 hz4
    go_wp2
    have hz5 := hp_set (hp_set (hp_set_ne HR.out.2.2.2 (p := ⟨w1.heap.size, 1, none⟩) hn1 (.string ⟨(rText s.data.toList 256 t1).1.toArray⟩)) (i := 0) (.bool true)) (i := 1) (.string ⟨(rText s.data.toList 256 t1).1.toArray⟩)
    have hc5 := hp_cell hz5
    refine bodyPost_ret (v := .agg #[.bool true, .string ⟨(rText s.data.toList 256 t1).1.toArray⟩]) (by simp [results, Try.results45, go_sem, hc5]) rfl ⟨rfl, ?_, ?_⟩
    · have hne : b ≠ w.heap.size := by have := HH.out.2.2.1; omega
      have hne2 : b ≠ w1.heap.size := by have h1 := HH.out.2.2.1; have h2 := HB.out.2.2.1; omega
      exact ⟨⟨hp_set_ne (hp_set_ne (hp_set_ne HR.out.1.blk.hp (p := ⟨w1.heap.size, 1, none⟩) hne2 _) (p := ⟨w.heap.size, 0, none⟩) hne _) (p := ⟨w.heap.size, 1, none⟩) hne _, paint_of HH.out.2.2.2.1⟩, HR.out.1.ok, HR.out.1.len⟩
    · have hCA := HB.out.2.2.2.2.2.1
      have hCB : Ch cA i w1 w2 := Ch.repaint HB.out.1 HR.out.2.1
      rw [HB.out.2.2.2.2.2.2] at hCB
      have hCC := Ch.repaint HH.out.1 (hCA.trans hCB)
      exact ((hCC.setCell (p := ⟨w1.heap.size, 1, none⟩) (paint_new (Nat.le_of_lt (Nat.lt_of_lt_of_le (by have := HB.out.2.2.1; omega) (Nat.le_refl _)))) _).setCell (p := ⟨w.heap.size, 0, none⟩) (paint_new (Nat.le_refl _)) _).setCell (p := ⟨w.heap.size, 1, none⟩) (paint_new (Nat.le_refl _)) _

end Go.Proofs.Ytiklpifaaogcpaa

namespace Go.Proofs.Ytiklpifaaogcpaa
open Go.RowKit Go.Cl Go.Wr Go.Kc
set_option maxRecDepth 100000
set_option linter.unusedVariables false
set_option linter.unusedSimpArgs false


/-- The reader (owner 1) and the message that is being read (owner 2, its lists 3 and 5), in a world that has come from w0. -/
def RS (col0 : Nat → Nat) (w0 : World) (b x : Nat) (s : ByteArray) (t : St) (m : Mg) (w : World) : Prop := ∃ col, Mv [1, 2, 3, 5] col0 w0 col w ∧ Rds 88 col 1 w b s t ∧ MsgAt col w x m
variable {col0 : Nat → Nat} {w0 : World} {b x : Nat} {s : ByteArray} {t : St} {m : Mg} {w : World}
theorem RS.cells (h : RS col0 w0 b x s t m w) : ∃ wp wc kp kc, (∀ i, w.cell? ⟨x, i, none⟩ = (#[.int .i64 m.kind, .int .i64 m.node, .int .i64 m.inc, .int .i64 m.ses, .int .i64 m.tx, .int .i64 m.seq, .string m.key, .int .i64 m.lo, .int .i64 m.hi, .bool m.has, .string m.data, .bool m.hit, .int .i64 m.err, .int .i64 m.n, .slice wp m.W.length wc, .slice kp m.K.length kc] : Array Value)[i]?) ∧ (∀ i, w.frozen? ⟨x, i, none⟩ = false) ∧ hp w x = some (.cells (m.cs wp wc kp kc) 30 (0, 0)) ∧ LsW w wp wc m.W ∧ LsS w kp kc m.K := by
  obtain ⟨col, h1, h2, ⟨wp, wc, kp, kc, hb, hw, hk⟩⟩ := h
  exact ⟨wp, wc, kp, kc, hp_cell hb.hp, hp_free hb.hp, hb.hp, row_lsW hw, row_lsS hk⟩
theorem RS.rcells (h : RS col0 w0 b x s t m w) : ∀ i, w.cell? ⟨b, i, none⟩ = (#[.string s, .int .i64 t.at_, .int .i64 t.e] : Array Value)[i]? := by
  obtain ⟨col, h1, h2, h3⟩ := h
  exact hp_cell h2.blk.hp
theorem RS.step {α : Type} {f : Nat} {args : Array Value} {v : α → Value} {r : α × St} (h : RS col0 w0 b x s t m w)
    (hc : ∀ col, Rds 88 col 1 w b s t → Calls Try.prog f args w fun e w' => e = .returned (v r.1) ∧ Rds 88 (paint col w 1) 1 w' b s r.2 ∧ Ch col 1 w w') :
    Calls Try.prog f args w fun e w' => e = .returned (v r.1) ∧ RS col0 w0 b x s r.2 m w' := by
  obtain ⟨col, h1, h2, h3⟩ := h
  refine (hc col h2).mono ?_
  rintro e w' ⟨he, hr, hC⟩
  exact ⟨he, _, h1.trans (hC.mv' (by simp)), hr, h3.kept hC.mv (by simp) (by simp) (by simp)⟩
theorem RS.take (h : RS col0 w0 b x s t m w) : Calls Try.prog 42 #[.pointer (some ⟨b, 0, none⟩)] w fun e w' => e = .returned (.int .i64 (rNum s.data.toList t).1) ∧ RS col0 w0 b x s (rNum s.data.toList t).2 m w' :=
  h.step (v := fun n : Int => Value.int .i64 n) (fun col hr => r_take col 1 w b s t hr)
theorem RS.num (h : RS col0 w0 b x s t m w) : Calls Try.prog 47 #[.pointer (some ⟨b, 0, none⟩)] w fun e w' => e = .returned (.int .i64 (rNum s.data.toList t).1) ∧ RS col0 w0 b x s (rNum s.data.toList t).2 m w' :=
  h.step (v := fun n : Int => Value.int .i64 n) (fun col hr => rr_num col 1 w b s t hr)
theorem RS.count (h : RS col0 w0 b x s t m w) : Calls Try.prog 48 #[.pointer (some ⟨b, 0, none⟩)] w fun e w' => e = .returned (.int .i64 (rCount s.data.toList t).1) ∧ RS col0 w0 b x s (rCount s.data.toList t).2 m w' :=
  h.step (v := fun n : Int => Value.int .i64 n) (fun col hr => r_count col 1 w b s t hr)
theorem RS.bool (h : RS col0 w0 b x s t m w) : Calls Try.prog 69 #[.pointer (some ⟨b, 0, none⟩)] w fun e w' => e = .returned (.bool (rBool s.data.toList t).1) ∧ RS col0 w0 b x s (rBool s.data.toList t).2 m w' :=
  h.step (v := fun n : Bool => Value.bool n) (fun col hr => rr_bool col 1 w b s t hr)
theorem RS.text (h : RS col0 w0 b x s t m w) (most : Int) : Calls Try.prog 44 #[.pointer (some ⟨b, 0, none⟩), .int .i64 most] w fun e w' => e = .returned (.string (rTx s.data.toList most t).1) ∧ RS col0 w0 b x s (rTx s.data.toList most t).2 m w' :=
  h.step (v := fun n : ByteArray => Value.string n) (r := rTx s.data.toList most t) (fun col hr => rr_text col 1 w b s t hr most)
theorem RS.pin (h : RS col0 w0 b x s t m w) : Calls Try.prog 46 #[.pointer (some ⟨b, 0, none⟩)] w fun e w' => e = .returned (.agg #[.int .i64 (rPin s.data.toList t).1.1, .int .i64 (rPin s.data.toList t).1.2]) ∧ RS col0 w0 b x s (rPin s.data.toList t).2 m w' :=
  h.step (v := fun n : Int × Int => Value.agg #[.int .i64 n.1, .int .i64 n.2]) (fun col hr => r_pin col 1 w b s t hr)
theorem RS.val (h : RS col0 w0 b x s t m w) : Calls Try.prog 45 #[.pointer (some ⟨b, 0, none⟩)] w fun e w' => e = .returned (.agg #[.bool (rVal s.data.toList t).1.1, .string (rVal s.data.toList t).1.2]) ∧ RS col0 w0 b x s (rVal s.data.toList t).2 m w' :=
  h.step (v := fun n : Bool × ByteArray => Value.agg #[.bool n.1, .string n.2]) (fun col hr => r_val col 1 w b s t hr)
theorem Rds.other {T : Nat} {col : Nat → Nat} {i : Nat} {w : World} {b : Nat} {s : ByteArray} {t : St} (h : Rds T col i w b s t) {p : Addr} (hne : b ≠ p.block) (u : Value) : Rds T col i (w.setCell p u) b s t := ⟨⟨hp_set_ne h.blk.hp hne u, h.blk.col⟩, h.ok, h.len⟩
theorem RS.ne (h : RS col0 w0 b x s t m w) : b ≠ x := by
  obtain ⟨col, h1, h2, ⟨wp, wc, kp, kc, hb, hw, hk⟩⟩ := h
  intro e
  have h3 := h2.blk.col
  have h4 := hb.col
  rw [e, h4] at h3
  omega
theorem RS.below (h : RS col0 w0 b x s t m w) {w' : World} (hb : Below w.heap.size w w') : RS col0 w0 b x s t m w' := by
  obtain ⟨col, h1, h2, h3⟩ := h
  exact ⟨col, h1.trans (Mv.of_below hb), h2.below hb, h3.below hb⟩
theorem RS.put (h : RS col0 w0 b x s t m w) {m' : Mg} (i : Nat) (u : Value) (hW : m'.W = m.W) (hK : m'.K = m.K) (hc : ∀ wp wc kp kc, (m.cs wp wc kp kc).setIfInBounds i u = m'.cs wp wc kp kc) : RS col0 w0 b x s t m' (w.setCell ⟨x, i, none⟩ u) := by
  have hne := h.ne
  obtain ⟨col, h1, h2, ⟨wp, wc, kp, kc, hb, hw, hk⟩⟩ := h
  refine ⟨col, mv_set h1 (p := ⟨x, i, none⟩) (by show col x ∈ _; rw [hb.col]; simp) u, h2.other hne u, ⟨wp, wc, kp, kc, ⟨?_, hb.col⟩, ?_, ?_⟩⟩
  · have := hp_set hb.hp (i := i) u
    rw [hc] at this
    exact this
  · rw [hW]
    exact hw.set (hw.ne hb.hp (by decide)) u
  · rw [hK]
    exact hk.set (hk.ne hb.hp (by decide)) u
theorem RS.put_kind (h : RS col0 w0 b x s t m w) (v : Int) : RS col0 w0 b x s t { m with kind := v } (w.setCell ⟨x, 0, none⟩ (.int .i64 v)) := h.put 0 _ rfl rfl (fun _ _ _ _ => rfl)
theorem RS.put_node (h : RS col0 w0 b x s t m w) (v : Int) : RS col0 w0 b x s t { m with node := v } (w.setCell ⟨x, 1, none⟩ (.int .i64 v)) := h.put 1 _ rfl rfl (fun _ _ _ _ => rfl)
theorem RS.put_inc (h : RS col0 w0 b x s t m w) (v : Int) : RS col0 w0 b x s t { m with inc := v } (w.setCell ⟨x, 2, none⟩ (.int .i64 v)) := h.put 2 _ rfl rfl (fun _ _ _ _ => rfl)
theorem RS.put_ses (h : RS col0 w0 b x s t m w) (v : Int) : RS col0 w0 b x s t { m with ses := v } (w.setCell ⟨x, 3, none⟩ (.int .i64 v)) := h.put 3 _ rfl rfl (fun _ _ _ _ => rfl)
theorem RS.put_tx (h : RS col0 w0 b x s t m w) (v : Int) : RS col0 w0 b x s t { m with tx := v } (w.setCell ⟨x, 4, none⟩ (.int .i64 v)) := h.put 4 _ rfl rfl (fun _ _ _ _ => rfl)
theorem RS.put_seq (h : RS col0 w0 b x s t m w) (v : Int) : RS col0 w0 b x s t { m with seq := v } (w.setCell ⟨x, 5, none⟩ (.int .i64 v)) := h.put 5 _ rfl rfl (fun _ _ _ _ => rfl)
theorem RS.put_key (h : RS col0 w0 b x s t m w) (v : ByteArray) : RS col0 w0 b x s t { m with key := v } (w.setCell ⟨x, 6, none⟩ (.string v)) := h.put 6 _ rfl rfl (fun _ _ _ _ => rfl)
theorem RS.put_lo (h : RS col0 w0 b x s t m w) (v : Int) : RS col0 w0 b x s t { m with lo := v } (w.setCell ⟨x, 7, none⟩ (.int .i64 v)) := h.put 7 _ rfl rfl (fun _ _ _ _ => rfl)
theorem RS.put_hi (h : RS col0 w0 b x s t m w) (v : Int) : RS col0 w0 b x s t { m with hi := v } (w.setCell ⟨x, 8, none⟩ (.int .i64 v)) := h.put 8 _ rfl rfl (fun _ _ _ _ => rfl)
theorem RS.put_has (h : RS col0 w0 b x s t m w) (v : Bool) : RS col0 w0 b x s t { m with has := v } (w.setCell ⟨x, 9, none⟩ (.bool v)) := h.put 9 _ rfl rfl (fun _ _ _ _ => rfl)
theorem RS.put_data (h : RS col0 w0 b x s t m w) (v : ByteArray) : RS col0 w0 b x s t { m with data := v } (w.setCell ⟨x, 10, none⟩ (.string v)) := h.put 10 _ rfl rfl (fun _ _ _ _ => rfl)
theorem RS.put_hit (h : RS col0 w0 b x s t m w) (v : Bool) : RS col0 w0 b x s t { m with hit := v } (w.setCell ⟨x, 11, none⟩ (.bool v)) := h.put 11 _ rfl rfl (fun _ _ _ _ => rfl)
theorem RS.put_err (h : RS col0 w0 b x s t m w) (v : Int) : RS col0 w0 b x s t { m with err := v } (w.setCell ⟨x, 12, none⟩ (.int .i64 v)) := h.put 12 _ rfl rfl (fun _ _ _ _ => rfl)
theorem RS.put_n (h : RS col0 w0 b x s t m w) (v : Int) : RS col0 w0 b x s t { m with n := v } (w.setCell ⟨x, 13, none⟩ (.int .i64 v)) := h.put 13 _ rfl rfl (fun _ _ _ _ => rfl)

end Go.Proofs.Ytiklpifaaogcpaa
