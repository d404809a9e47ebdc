/- Texts laid together: Kcf Kbk Kbl Kbm Kbw. -/
import Derived.Test.YtiklpifaaogcpaaKde
import Derived.Test.YtiklpifaaogcpaaKn2
import Derived.Test.YtiklpifaaogcpaaKen
import Derived.Test.YtiklpifaaogcpaaKsh
import Derived.WalkKit
import Derived.WalkLawsBesides
import Derived.WalkSpells
import Derived.Below
import Derived.Deep.RegionHeld3
import Derived.Deep.QuietTactic
import Derived.BigQuiet
import Derived.Deep.DeepCutAuto
import Derived.Deep.DeepMust
import Derived.KernelRfl
import Derived.Lib.Hide
import Derived.Outline
import Derived.RegionTactic
import Derived.StillTailTactics
import Derived.Laws.IdiomStrings
import Derived.Handy
namespace Go.Proofs.Ytiklpifaaogcpaa
open Go.RowKit Go.Cl Go.Wr Go.Kc
set_option maxRecDepth 100000
set_option linter.unusedVariables false
set_option linter.unusedSimpArgs false


section
variable {σ α β : Type}
theorem bind_inv {p : M σ α} {q : α → M σ β} {s s' : σ} {b : β} (h : p.bind q s = (.ok b, s')) : ∃ a s1, p s = (.ok a, s1) ∧ q a s1 = (.ok b, s') := by
  unfold M.bind at h
  generalize hp : p s = r at h
  obtain ⟨_ | a, s1⟩ := r
  · simp at h
  · exact ⟨a, s1, rfl, h⟩
theorem ret_inv {a b : α} {s s' : σ} (h : (M.ret a : M σ α) s = (.ok b, s')) : a = b ∧ s = s' := by
  unfold M.ret at h; simpa using h
theorem ofR_inv {f : α → β} {r : α × St} {b : β} {p' : Nat} (h : ofR f r = (.ok b, p')) : r.2.e = 0 ∧ b = f r.1 ∧ p' = r.2.at_ := by
  unfold ofR at h
  by_cases he : r.2.e = 0
  · rw [if_pos he] at h
    injection h with h1 h2
    injection h1 with h1
    exact ⟨he, h1.symm, h2.symm⟩
  · rw [if_neg he] at h
    injection h with h1 h2
    injection h1
end
def Fm (s : List UInt8) (p p' : Nat) (e : List UInt8) : Prop := s.take p' = s.take p ++ e ∧ p' ≤ s.length
theorem Fm.trans {s : List UInt8} {p q r : Nat} {e f : List UInt8} (h : Fm s p q e) (h' : Fm s q r f) : Fm s p r (e ++ f) :=
  ⟨by rw [h'.1, h.1, List.append_assoc], h'.2⟩
theorem fm_num {s : List UInt8} {n0 n : Int} {p p' : Nat} (h : (inO s).num n0 p = (.ok n, p')) (hp : p ≤ s.length) : Fm s p p' (encN n) ∧ I64 n := by
  obtain ⟨he, rfl, rfl⟩ := ofR_inv h
  obtain ⟨h1, h2, h3, h4⟩ := form_num (s := s) (t := ⟨p, 0⟩) hp rfl he
  exact ⟨⟨h1, h2⟩, h3, h4⟩
theorem fm_bool {s : List UInt8} {b0 b : Bool} {p p' : Nat} (h : (inO s).bool b0 p = (.ok b, p')) (hp : p ≤ s.length) : Fm s p p' (bol b) := by
  obtain ⟨he, rfl, rfl⟩ := ofR_inv h
  exact form_bool (s := s) (t := ⟨p, 0⟩) hp rfl he
theorem fm_text {s : List UInt8} {t0 t : ByteArray} {most : Int} {p p' : Nat} (h : (inO s).text t0 most p = (.ok t, p')) (hp : p ≤ s.length) : Fm s p p' (encT' t) := by
  obtain ⟨he, rfl, rfl⟩ := ofR_inv (f := fun l : List UInt8 => (⟨l.toArray⟩ : ByteArray)) (r := rText s most ⟨p, 0⟩) h
  exact form_text (s := s) (t := ⟨p, 0⟩) hp rfl he
theorem fm_value {s : List UInt8} {h0 : Bool} {d0 : ByteArray} {v : Bool × ByteArray} {p p' : Nat} (h : valueT (inO s) h0 d0 p = (.ok v, p')) (hp : p ≤ s.length) : Fm s p p' (encV v.1 v.2) := by
  obtain ⟨b, p1, h1, h⟩ := bind_inv h
  have f1 := fm_bool h1 hp
  unfold encV
  cases b
  · obtain ⟨rfl, rfl⟩ := ret_inv h
    simpa using f1
  · obtain ⟨d, p2, h2, h⟩ := bind_inv h
    obtain ⟨rfl, rfl⟩ := ret_inv h
    simpa [encT'] using f1.trans (fm_text h2 f1.2)
theorem fm_pin {s : List UInt8} {lo0 hi0 : Int} {v : Int × Int} {p p' : Nat} (h : pinT (inO s) lo0 hi0 p = (.ok v, p')) (hp : p ≤ s.length) : Fm s p p' (encP v.1 v.2) ∧ I64 v.1 ∧ I64 v.2 := by
  obtain ⟨lo, p1, h1, h⟩ := bind_inv h
  obtain ⟨f1, i1⟩ := fm_num h1 hp
  obtain ⟨hi, p2, h2, h⟩ := bind_inv h
  obtain ⟨f2, i2⟩ := fm_num h2 f1.2
  obtain ⟨rfl, rfl⟩ := ret_inv h
  exact ⟨f1.trans f2, i1, i2⟩
theorem fm_elem {s : List UInt8} {x0 x : Wt} {p p' : Nat} (h : elemT (inO s) x0 p = (.ok x, p')) (hp : p ≤ s.length) : Fm s p p' (encE x) := by
  obtain ⟨k, p1, h1, h⟩ := bind_inv h
  have f1 := fm_text h1 hp
  obtain ⟨v, p2, h2, h⟩ := bind_inv h
  have f2 := fm_value h2 f1.2
  obtain ⟨rfl, rfl⟩ := ret_inv h
  exact f1.trans f2
theorem fm_map {α : Type} {s : List UInt8} {one : α → M Nat α} {enc : α → List UInt8} (H : ∀ x y p p', one x p = (.ok y, p') → p ≤ s.length → Fm s p p' (enc y)) :
    ∀ (l r : List α) (p p' : Nat), mapT one l p = (.ok r, p') → p ≤ s.length → Fm s p p' (r.flatMap enc) ∧ r.length = l.length
  | [], r, p, p', h, hp => by
    obtain ⟨rfl, rfl⟩ := ret_inv h
    exact ⟨⟨by simp, hp⟩, rfl⟩
  | x :: l, r, p, p', h, hp => by
    obtain ⟨y, p1, h1, h⟩ := bind_inv h
    have f1 := H _ _ _ _ h1 hp
    obtain ⟨r', p2, h2, h⟩ := bind_inv h
    obtain ⟨f2, e2⟩ := fm_map H l r' p1 p2 h2 f1.2
    obtain ⟨rfl, rfl⟩ := ret_inv h
    refine ⟨?_, by simp [e2]⟩
    rw [List.flatMap_cons]
    exact f1.trans f2
theorem fm_list {α : Type} {s : List UInt8} {one : α → M Nat α} {enc : α → List UInt8} (H : ∀ x y p p', one x p = (.ok y, p') → p ≤ s.length → Fm s p p' (enc y)) {z : α} {r : List α} {p p' : Nat}
    (h : listT (inO s) one z [] p = (.ok r, p')) (hp : p ≤ s.length) : Fm s p p' (encN r.length ++ r.flatMap enc) ∧ 1 ≤ r.length ∧ r.length ≤ 8 := by
  obtain ⟨n, p1, h1, h⟩ := bind_inv h
  obtain ⟨f1, i1⟩ := fm_num h1 hp
  by_cases hn : n < 1 ∨ 8 < n
  · rw [if_pos hn] at h
    injection h with h1 h2
    injection h1
  · rw [if_neg hn] at h
    obtain ⟨f2, e2⟩ := fm_map H _ _ _ _ h f1.2
    have hr : r.length = n.toNat := by rw [e2]; simp
    have hr2 : (r.length : Int) = n := by omega
    exact ⟨by rw [hr2]; exact f1.trans f2, by omega, by omega⟩
theorem fm_full {s : List UInt8} {m0 m : Mg} {p p' : Nat} (h : fullT (inO s) m0 p = (.ok m, p')) (hp : p ≤ s.length) :
    ∃ has data lo hi, m = { m0 with has := has, data := data, lo := lo, hi := hi } ∧ Fm s p p' (encV has data ++ encP lo hi) ∧ I64 lo ∧ I64 hi := by
  obtain ⟨v, p1, h1, h⟩ := bind_inv h
  have f1 := fm_value h1 hp
  obtain ⟨q, p2, h2, h⟩ := bind_inv h
  obtain ⟨f2, i2⟩ := fm_pin h2 f1.2
  obtain ⟨rfl, rfl⟩ := ret_inv h
  exact ⟨_, _, _, _, rfl, f1.trans f2, i2⟩
theorem fm_asked {s : List UInt8} {m0 m : Mg} {p p' : Nat} (h : askedT (inO s) m0 p = (.ok m, p')) (hp : p ≤ s.length) :
    ∃ tx seq, m = { m0 with tx := tx, seq := seq } ∧ Fm s p p' (encN tx ++ encN seq) ∧ I64 tx ∧ I64 seq := by
  obtain ⟨a, p1, h1, h⟩ := bind_inv h
  obtain ⟨f1, i1⟩ := fm_num h1 hp
  obtain ⟨b, p2, h2, h⟩ := bind_inv h
  obtain ⟨f2, i2⟩ := fm_num h2 f1.2
  obtain ⟨rfl, rfl⟩ := ret_inv h
  exact ⟨_, _, rfl, f1.trans f2, i1, i2⟩
theorem fm_keyed {s : List UInt8} {m0 m : Mg} {p p' : Nat} (h : keyedT (inO s) m0 p = (.ok m, p')) (hp : p ≤ s.length) :
    ∃ tx seq key lo hi, m = { m0 with tx := tx, seq := seq, key := key, lo := lo, hi := hi } ∧ Fm s p p' ((encN tx ++ encN seq) ++ (encT' key ++ encP lo hi)) ∧ I64 tx ∧ I64 seq ∧ I64 lo ∧ I64 hi := by
  obtain ⟨a, p1, h1, h⟩ := bind_inv h
  obtain ⟨tx, seq, rfl, f1, i1, i2⟩ := fm_asked h1 hp
  obtain ⟨k, p2, h2, h⟩ := bind_inv h
  have f2 := fm_text h2 f1.2
  obtain ⟨q, p3, h3, h⟩ := bind_inv h
  obtain ⟨f3, i3⟩ := fm_pin h3 f2.2
  obtain ⟨rfl, rfl⟩ := ret_inv h
  exact ⟨_, _, _, _, _, rfl, f1.trans (f2.trans f3), i1, i2, i3⟩
theorem i640 : I64 0 := ⟨by decide, by decide⟩
theorem form_fields {s : List UInt8} {k : Int} {m : Mg} {p p' : Nat} (hk : 1 ≤ k ∧ k ≤ 11) (h : fieldsT (inO s) { Mg.zero with kind := k } p = (.ok m, p')) (hp : p ≤ s.length) :
    Fm s p p' (encF m) ∧ m.In ∧ m.kind = k := by
  have ik : I64 k := ⟨by omega, by omega⟩
  obtain ⟨hk1, hk2⟩ := hk
  have hc : k = 1 ∨ k = 2 ∨ k = 3 ∨ k = 4 ∨ k = 5 ∨ k = 6 ∨ k = 7 ∨ k = 8 ∨ k = 9 ∨ k = 10 ∨ k = 11 := by omega
  rcases hc with rfl | rfl | rfl | rfl | rfl | rfl | rfl | rfl | rfl | rfl | rfl
  · obtain ⟨a, p1, h1, h⟩ := bind_inv h
    obtain ⟨f1, i1⟩ := fm_num h1 hp
    obtain ⟨b, p2, h2, h⟩ := bind_inv h
    obtain ⟨f2, i2⟩ := fm_num h2 f1.2
    obtain ⟨c, p3, h3, h⟩ := bind_inv h
    obtain ⟨f3, i3⟩ := fm_list (enc := encE) (fun x y p p' h hp => fm_elem h hp) h3 f2.2
    obtain ⟨rfl, rfl⟩ := ret_inv h
    exact ⟨by simpa [encF] using (f1.trans f2).trans f3, ⟨ik, i640, i640, i1, i640, i2, i640, i640, i640, i640⟩, rfl⟩
  · obtain ⟨a, p1, h1, h⟩ := bind_inv h
    obtain ⟨f1, i1⟩ := fm_num h1 hp
    obtain ⟨b, p2, h2, h⟩ := bind_inv h
    obtain ⟨f2, i2⟩ := fm_num h2 f1.2
    obtain ⟨c, p3, h3, h⟩ := bind_inv h
    obtain ⟨f3, i3⟩ := fm_num h3 f2.2
    obtain ⟨d, p4, h4, h⟩ := bind_inv h
    obtain ⟨f4, i4⟩ := fm_num h4 f3.2
    obtain ⟨rfl, rfl⟩ := ret_inv h
    exact ⟨by simpa [encF] using ((f1.trans f2).trans f3).trans f4, ⟨ik, i640, i640, i1, i640, i2, i640, i640, i3, i4⟩, rfl⟩
  · obtain ⟨a, p1, h1, h⟩ := bind_inv h
    obtain ⟨f1, i1⟩ := fm_num h1 hp
    obtain ⟨tx, seq, key, lo, hi, rfl, f2, it, is, il, ih⟩ := fm_keyed h f1.2
    exact ⟨by simpa [encF] using f1.trans f2, ⟨ik, i1, i640, i640, it, is, il, ih, i640, i640⟩, rfl⟩
  · obtain ⟨a, p1, h1, h⟩ := bind_inv h
    obtain ⟨tx, seq, rfl, f1, it, is⟩ := fm_asked h1 hp
    obtain ⟨b, p2, h2, h⟩ := bind_inv h
    have f2 := fm_bool h2 f1.2
    cases b
    · obtain ⟨rfl, rfl⟩ := ret_inv h
      exact ⟨by simpa [encF] using f1.trans f2, ⟨ik, i640, i640, i640, it, is, i640, i640, i640, i640⟩, rfl⟩
    · obtain ⟨has, data, lo, hi, rfl, f3, il, ih⟩ := fm_full h f2.2
      exact ⟨by simpa [encF] using (f1.trans f2).trans f3, ⟨ik, i640, i640, i640, it, is, il, ih, i640, i640⟩, rfl⟩
  · obtain ⟨tx, seq, key, lo, hi, rfl, f2, it, is, il, ih⟩ := fm_keyed h hp
    exact ⟨by simpa [encF] using f2, ⟨ik, i640, i640, i640, it, is, il, ih, i640, i640⟩, rfl⟩
  · obtain ⟨a, p1, h1, h⟩ := bind_inv h
    obtain ⟨tx, seq, rfl, f1, it, is⟩ := fm_asked h1 hp
    obtain ⟨b, p2, h2, h⟩ := bind_inv h
    obtain ⟨f2, i2⟩ := fm_num h2 f1.2
    by_cases hb : b = 0
    · rw [if_pos hb] at h
      obtain ⟨has, data, lo, hi, rfl, f3, il, ih⟩ := fm_full h f2.2
      exact ⟨by simpa [encF, hb] using (f1.trans f2).trans f3, ⟨ik, i640, i640, i640, it, is, il, ih, i2, i640⟩, rfl⟩
    · rw [if_neg hb] at h
      obtain ⟨rfl, rfl⟩ := ret_inv h
      exact ⟨by simpa [encF, hb] using f1.trans f2, ⟨ik, i640, i640, i640, it, is, i640, i640, i2, i640⟩, rfl⟩
  · obtain ⟨a, p1, h1, h⟩ := bind_inv h
    obtain ⟨f1, i1⟩ := fm_num h1 hp
    obtain ⟨k, p2, h2, h⟩ := bind_inv h
    have f2 := fm_text h2 f1.2
    obtain ⟨b, p3, h3, h⟩ := bind_inv h
    obtain ⟨has, data, lo, hi, rfl, f3, il, ih⟩ := fm_full h3 f2.2
    obtain ⟨n, p4, h4, h⟩ := bind_inv h
    obtain ⟨f4, i4⟩ := fm_num h4 f3.2
    obtain ⟨rfl, rfl⟩ := ret_inv h
    exact ⟨by simpa [encF] using ((f1.trans f2).trans f3).trans f4, ⟨ik, i1, i640, i640, i640, i640, il, ih, i640, i4⟩, rfl⟩
  · obtain ⟨a, p1, h1, h⟩ := bind_inv h
    obtain ⟨f1, i1⟩ := fm_num h1 hp
    obtain ⟨b, p2, h2, h⟩ := bind_inv h
    obtain ⟨f2, i2⟩ := fm_num h2 f1.2
    obtain ⟨c, p3, h3, h⟩ := bind_inv h
    obtain ⟨f3, i3⟩ := fm_list (enc := encT') (fun x y p p' h hp => fm_text h hp) h3 f2.2
    obtain ⟨rfl, rfl⟩ := ret_inv h
    exact ⟨by simpa [encF] using (f1.trans f2).trans f3, ⟨ik, i1, i640, i640, i640, i640, i640, i640, i640, i2⟩, rfl⟩
  · obtain ⟨a, p1, h1, h⟩ := bind_inv h
    obtain ⟨f1, i1⟩ := fm_num h1 hp
    obtain ⟨b, p2, h2, h⟩ := bind_inv h
    obtain ⟨f2, i2⟩ := fm_num h2 f1.2
    obtain ⟨rfl, rfl⟩ := ret_inv h
    exact ⟨by simpa [encF] using f1.trans f2, ⟨ik, i1, i640, i640, i640, i640, i640, i640, i640, i2⟩, rfl⟩
  · obtain ⟨a, p1, h1, h⟩ := bind_inv h
    obtain ⟨f1, i1⟩ := fm_num h1 hp
    obtain ⟨b, p2, h2, h⟩ := bind_inv h
    obtain ⟨f2, i2⟩ := fm_num h2 f1.2
    obtain ⟨rfl, rfl⟩ := ret_inv h
    exact ⟨by simpa [encF] using f1.trans f2, ⟨ik, i1, i2, i640, i640, i640, i640, i640, i640, i640⟩, rfl⟩
  · obtain ⟨a, p1, h1, h⟩ := bind_inv h
    obtain ⟨f1, i1⟩ := fm_num h1 hp
    obtain ⟨b, p2, h2, h⟩ := bind_inv h
    obtain ⟨f2, i2⟩ := fm_num h2 f1.2
    obtain ⟨c, p3, h3, h⟩ := bind_inv h
    obtain ⟨f3, i3⟩ := fm_num h3 f2.2
    obtain ⟨rfl, rfl⟩ := ret_inv h
    exact ⟨by simpa [encF] using (f1.trans f2).trans f3, ⟨ik, i1, i2, i640, i640, i640, i640, i640, i640, i3⟩, rfl⟩
/-- What Decode reads, Encode writes again. -/
theorem form_ok {s : List UInt8} {m : Mg} (h : decode s = .ok m) : encM m = s ∧ m.In ∧ chkM m = 0 := by
  unfold decode at h
  generalize hn : (inO s).num 0 0 = r at h
  obtain ⟨_ | k, p⟩ := r
  · simp at h
  obtain ⟨f1, -⟩ := fm_num hn (Nat.zero_le _)
  dsimp only at h
  split at h
  · rename_i hk
    generalize hf : fieldsT (inO s) { Mg.zero with kind := k } p = r at h
    obtain ⟨_ | m', p'⟩ := r
    · simp at h
    dsimp only at h
    split at h
    · simp at h
    · rename_i hend
      split at h
      · simp at h
      · rename_i hchk
        injection h with h
        subst h
        obtain ⟨f2, hIn, hkk⟩ := form_fields hk hf f1.2
        have hf := f1.trans f2
        have he : ¬ p' < s.length := by
          intro hlt
          apply hend
          unfold rEnd
          rw [if_pos rfl, if_pos hlt]
          decide
        refine ⟨?_, hIn, by simpa using hchk⟩
        have h1 := hf.1
        rw [List.take_of_length_le (by omega)] at h1
        unfold encM
        rw [hkk]
        simpa using h1.symm
  · simp at h

end Go.Proofs.Ytiklpifaaogcpaa

namespace Go.Proofs.Ytiklpifaaogcpaa
open Go.RowKit Go.Cl Go.Wr Go.Kc
set_option maxRecDepth 100000
set_option linter.unusedVariables false
set_option linter.unusedSimpArgs false


def Er {α : Type} (x : M Nat α) : Prop := ∀ p e p', x p = (.error e, p') → e = 10 ∨ e = 11
theorem Er.bind {α β : Type} {x : M Nat α} {f : α → M Nat β} (hx : Er x) (hf : ∀ a, Er (f a)) : Er (x.bind f) := by
  intro p e p' h
  unfold M.bind at h
  generalize hp : x p = r at h
  obtain ⟨e' | a, s1⟩ := r
  · dsimp only at h
    injection h with h1 h2
    injection h1 with h1
    subst h1
    exact hx _ _ _ hp
  · exact hf a _ _ _ h
theorem Er.ret {α : Type} (a : α) : Er (M.ret a : M Nat α) := fun p e p' h => by unfold M.ret at h; simp at h
theorem Er.fail {α : Type} : Er (M.fail 11 : M Nat α) := fun p e p' h => by
  unfold M.fail at h
  injection h with h1 h2
  injection h1 with h1
  exact .inr h1.symm
theorem er_of {α β : Type} {f : α → β} {x : Nat → α × St} (h : ∀ p, (x p).2.e = 0 ∨ (x p).2.e = 10 ∨ (x p).2.e = 11) : Er (fun p => ofR f (x p)) := by
  intro p e p' he
  unfold ofR at he
  dsimp only at he
  rcases h p with h0 | h0
  · rw [if_pos h0] at he; simp at he
  · rw [if_neg (by omega)] at he
    injection he with h1 h2
    injection h1 with h1
    omega
theorem er_num (s : List UInt8) (n : Int) : Er ((inO s).num n) := er_of fun p => by
  unfold rNum
  rw [if_pos rfl]
  split
  · rename_i e h; exact .inr (number_err h)
  · exact .inl rfl
theorem er_bool (s : List UInt8) (n : Bool) : Er ((inO s).bool n) := er_of fun p => by
  unfold rBool
  rw [if_pos rfl]
  split
  · exact .inr (.inl rfl)
  · split
    · exact .inr (.inr rfl)
    · exact .inl rfl
theorem er_text (s : List UInt8) (n : ByteArray) (most : Int) : Er ((inO s).text n most) := er_of (f := fun l : List UInt8 => (⟨l.toArray⟩ : ByteArray)) fun p => by
  unfold rText
  rw [if_pos rfl]
  split
  · rename_i e h; exact .inr (number_err h)
  · split
    · exact .inr (.inr rfl)
    · split
      · exact .inr (.inl rfl)
      · exact .inl rfl
theorem er_map {α : Type} {one : α → M Nat α} (H : ∀ x, Er (one x)) : ∀ l, Er (mapT one l)
  | [] => Er.ret _
  | x :: l => (H x).bind fun y => (er_map H l).bind fun r => Er.ret _
theorem er_value (s : List UInt8) (h : Bool) (d : ByteArray) : Er (valueT (inO s) h d) := (er_bool s h).bind fun b => by
  cases b
  · exact Er.ret _
  · exact (er_text s d 256).bind fun _ => Er.ret _
theorem er_pin (s : List UInt8) (lo hi : Int) : Er (pinT (inO s) lo hi) := (er_num s lo).bind fun _ => (er_num s hi).bind fun _ => Er.ret _
theorem er_elem (s : List UInt8) (x : Wt) : Er (elemT (inO s) x) := (er_text s _ _).bind fun _ => (er_value s _ _).bind fun _ => Er.ret _
theorem er_list {α : Type} (s : List UInt8) {one : α → M Nat α} (H : ∀ x, Er (one x)) (z : α) (L : List α) : Er (listT (inO s) one z L) := (er_num s _).bind fun n => by
  try dsimp only
  split
  · exact Er.fail
  · exact er_map H _
theorem er_asked (s : List UInt8) (m : Mg) : Er (askedT (inO s) m) := (er_num s _).bind fun _ => (er_num s _).bind fun _ => Er.ret _
theorem er_full (s : List UInt8) (m : Mg) : Er (fullT (inO s) m) := (er_value s _ _).bind fun _ => (er_pin s _ _).bind fun _ => Er.ret _
theorem er_keyed (s : List UInt8) (m : Mg) : Er (keyedT (inO s) m) := (er_asked s _).bind fun _ => (er_text s _ _).bind fun _ => (er_pin s _ _).bind fun _ => Er.ret _
theorem er_told (s : List UInt8) (m : Mg) : Er (toldT (inO s) m) := (er_num s _).bind fun _ => by
  try dsimp only
  split
  · exact (er_text s _ _).bind fun _ => (er_full s _).bind fun _ => (er_num s _).bind fun _ => Er.ret _
  split
  · exact (er_num s _).bind fun _ => (er_list s (fun x => er_text s x 32) _ _).bind fun _ => Er.ret _
  split
  · exact (er_num s _).bind fun _ => Er.ret _
  split
  · exact (er_num s _).bind fun _ => (er_num s _).bind fun _ => Er.ret _
  split
  · exact (er_num s _).bind fun _ => Er.ret _
  · exact Er.ret _
theorem er_fields (s : List UInt8) (m : Mg) : Er (fieldsT (inO s) m) := by
  unfold fieldsT
  split
  · exact (er_num s _).bind fun _ => (er_num s _).bind fun _ => (er_list s (fun x => er_elem s x) _ _).bind fun _ => Er.ret _
  split
  · exact (er_num s _).bind fun _ => (er_num s _).bind fun _ => (er_num s _).bind fun _ => (er_num s _).bind fun _ => Er.ret _
  split
  · exact (er_num s _).bind fun _ => er_keyed s _
  split
  · exact er_keyed s _
  split
  · refine (er_asked s _).bind fun _ => (er_bool s _).bind fun b => ?_
    cases b
    · exact Er.ret _
    · exact er_full s _
  split
  · refine (er_asked s _).bind fun _ => (er_num s _).bind fun b => ?_
    try dsimp only
    split
    · exact er_full s _
    · exact Er.ret _
  · exact er_told s _
theorem chk_vals (m : Mg) : chkM m = 0 ∨ chkM m = 1 ∨ chkM m = 13 := by
  unfold chkM
  split
  · split
    · exact .inl rfl
    · exact .inr (.inl rfl)
  · exact .inr (.inr rfl)
theorem form_err {s : List UInt8} {e : Int} (h : decode s = .error e) : e = 1 ∨ 10 ≤ e ∧ e ≤ 13 := by
  unfold decode at h
  generalize hn : (inO s).num 0 0 = r at h
  obtain ⟨e' | k, p⟩ := r
  · dsimp only at h
    injection h with h
    have := er_num s 0 _ _ _ hn
    omega
  dsimp only at h
  split at h
  · generalize hf : fieldsT (inO s) { Mg.zero with kind := k } p = r at h
    obtain ⟨e' | m', p'⟩ := r
    · dsimp only at h
      injection h with h
      have := er_fields s _ _ _ _ hf
      omega
    dsimp only at h
    split at h
    · rename_i hend
      injection h with h
      have : rEnd s ⟨p', 0⟩ = 0 ∨ rEnd s ⟨p', 0⟩ = 12 := by unfold rEnd; rw [if_pos rfl]; split; exact .inr rfl; exact .inl rfl
      omega
    · split at h
      · injection h with h
        have := chk_vals m'
        omega
      · injection h
  · injection h with h
    omega

end Go.Proofs.Ytiklpifaaogcpaa

namespace Go.Proofs.Ytiklpifaaogcpaa
open Go.RowKit Go.Cl Go.Wr Go.Kc
set_option maxRecDepth 100000
set_option linter.unusedVariables false
set_option linter.unusedSimpArgs false


def mA : Mg := ⟨3, 0, 0, 0, 0, 1, ⟨#[97]⟩, 0, 2, false, emp, false, 0, 0, [], []⟩
def mB : Mg := ⟨10, 2, 3, 0, 0, 0, emp, 0, 0, false, emp, false, 0, 0, [], []⟩
theorem okA : chkM mA = 0 := by
  unfold chkM
  rw [if_pos (by decide), if_pos]
  refine ⟨⟨.inl rfl, .inl rfl, .inl rfl, .inl rfl, .inr (by decide), .inr (.inl rfl), .inl rfl, .inr (.inl rfl), .inl rfl, .inl rfl, .inl rfl, .inl rfl, .inl rfl, .inl rfl, .inl rfl⟩, ⟨by decide, by decide, by decide, by decide, by decide, by decide, by decide, by decide⟩, ⟨fun h => by simp [mA] at h, fun h => by simp [mA] at h, fun h => ?_, fun h => by simp [mA] at h, fun h => by simp [fullM, mA] at h⟩⟩
  constructor
  · unfold goodK; decide
  · unfold goodP; decide
theorem okB : chkM mB = 0 := by
  unfold chkM
  rw [if_pos (by decide), if_pos]
  exact ⟨⟨.inr (.inr (by decide)), .inr (by decide), .inl rfl, .inl rfl, .inl rfl, .inl rfl, .inl rfl, .inl rfl, .inl rfl, .inl rfl, .inl rfl, .inl rfl, .inl rfl, .inl rfl, .inl rfl⟩, ⟨by decide, by decide, by decide, by decide, by decide, by decide, by decide, by decide⟩, ⟨fun h => by simp [mB] at h, fun h => by simp [mB] at h, fun h => by simp [mB] at h, fun h => by simp [mB] at h, fun h => by simp [fullM, mB] at h⟩⟩
theorem encA : encM mA = [6, 0, 0, 2, 2, 97, 0, 4] := by
  unfold encM
  rw [show encF mA = encN 0 ++ encN 0 ++ encN 1 ++ encT' ⟨#[97]⟩ ++ encP 0 2 from rfl]
  rw [show mA.kind = 3 from rfl]
  unfold encN encT' encP txt
  rw [show zz 3 = 6 from rfl, show zz 0 = 0 from rfl, show zz 1 = 2 from rfl, show zz 2 = 4 from rfl]
  rw [num_lo (by decide), num_lo (by decide), num_lo (by decide), num_lo (by decide)]
  first | decide | (rw [num_lo (by decide)]; decide)
theorem decB : decode [20, 4, 6] = .ok mB := by
  have h1 : (inO [20, 4, 6]).num 0 0 = (.ok 10, 1) := by rfl
  have h2 : fieldsT (inO [20, 4, 6]) { Mg.zero with kind := 10 } 1 = (.ok mB, 3) := by rfl
  unfold decode
  rw [h1]
  dsimp only
  rw [if_pos (by decide), h2]
  dsimp only
  rw [if_neg (by decide), okB, if_neg (by decide)]
theorem lsW0 (w : World) : LsW w none 0 [] := ⟨⟨Nat.le_refl _, Nat.zero_le _⟩, fun i x h => by simp at h⟩
theorem lsS0 (w : World) : LsS w none 0 [] := ⟨⟨Nat.le_refl _, Nat.zero_le _⟩, fun i x h => by simp at h⟩
def EncA (w : World) : Ending → World → Prop := fun e w' => e = .returned (.tuple #[.string ⟨#[6, 0, 0, 2, 2, 97, 0, 4]⟩, .int .i64 0]) ∧ Below w.heap.size w w'
theorem c_encA (w : World) : Calls Try.prog 10 #[.agg #[.int .i64 3, .int .i64 0, .int .i64 0, .int .i64 0, .int .i64 0, .int .i64 1, .string ⟨#[97]⟩, .int .i64 0, .int .i64 2, .bool false, .string ⟨#[]⟩, .bool false, .int .i64 0, .int .i64 0, .slice none 0 0, .slice none 0 0]] w (EncA w) := by
  have hIn : mA.In := ⟨⟨by decide, by decide⟩, ⟨by decide, by decide⟩, ⟨by decide, by decide⟩, ⟨by decide, by decide⟩, ⟨by decide, by decide⟩, ⟨by decide, by decide⟩, ⟨by decide, by decide⟩, ⟨by decide, by decide⟩, ⟨by decide, by decide⟩, ⟨by decide, by decide⟩⟩
  refine (c_encode mA hIn none 0 none 0 w (lsW0 w) (Nat.zero_le _) (lsS0 w) (Nat.zero_le _)).mono ?_
  rintro e w' ⟨h, -, hb⟩
  have := h okA
  rw [encA] at this
  exact ⟨this, hb⟩
def DecB (w : World) : Ending → World → Prop := fun e w' => ∃ wp xc kp yc, e = .returned (.tuple #[.agg #[.int .i64 10, .int .i64 2, .int .i64 3, .int .i64 0, .int .i64 0, .int .i64 0, .string ⟨#[]⟩, .int .i64 0, .int .i64 0, .bool false, .string ⟨#[]⟩, .bool false, .int .i64 0, .int .i64 0, .slice wp 0 xc, .slice kp 0 yc], .int .i64 0]) ∧ Below w.heap.size w w'
theorem c_decB (w : World) : Calls Try.prog 14 #[.string ⟨#[20, 4, 6]⟩] w (DecB w) := by
  refine (c_decode ⟨#[20, 4, 6]⟩ (by decide) w).mono ?_
  rintro e w' ⟨hb, h⟩
  rw [show (ByteArray.mk #[20, 4, 6]).data.toList = [20, 4, 6] from rfl, decB] at h
  rcases h with ⟨er, h, _⟩ | ⟨m, c, wp, wc, kp, kc, h, rfl, _⟩
  · injection h
  · injection h with h
    subst h
    exact ⟨wp, wc, kp, kc, rfl, hb⟩
theorem c_fixed (w : World) : Calls Try.prog 9 #[] w fun e w' => e = .returned (.bool true) ∧ Below w.heap.size w w' := by
  go_enter Try.func9, Try.ntmps9
  go_wp2_with fail
  refine (c_encA w).mono ?_
  rintro e w1 ⟨rfl, hb1⟩
  go_wp2_with fail
  refine (c_decB w1).mono ?_
  rintro e w2 ⟨wp, xc, kp, yc, rfl, hb2⟩
  dsimp only
  iterate 10 go_step
  refine al_op rfl rfl ?_
  simp only [Act.put, List.setIfInBounds_toArray, List.set_cons_zero, List.set_cons_succ]
  refine st_op rfl (.tmp 3) (.tmp 13) rfl w2.heap.size _ rfl rfl Z30 (hp_alloc_new _ _) rfl rfl (by simp [Value.oneCell']) ?_
  simp only [Act.put, List.setIfInBounds_toArray, List.set_cons_zero, List.set_cons_succ]
  have k3 := hp_row (cs' := #[.int .i64 10, .int .i64 2, .int .i64 3, .int .i64 0, .int .i64 0, .int .i64 0, .string ⟨#[]⟩, .int .i64 0, .int .i64 0, .bool false, .string ⟨#[]⟩, .bool false, .int .i64 0, .int .i64 0, .slice wp 0 xc, .slice kp 0 yc]) (hp_alloc_new w2 (.cells Z30 30))
  have hb3 : Below w.heap.size w ((w2.alloc (.cells Z30 30)).setRow w2.heap.size #[.int .i64 10, .int .i64 2, .int .i64 3, .int .i64 0, .int .i64 0, .int .i64 0, .string ⟨#[]⟩, .int .i64 0, .int .i64 0, .bool false, .string ⟨#[]⟩, .bool false, .int .i64 0, .int .i64 0, .slice wp 0 xc, .slice kp 0 yc]) := below_call (below_call hb1 hb2) (below_row (by (repeat (first | (with_reducible exact Below.refl _ _) | (with_reducible refine below_drew ?_) | (with_reducible refine below_alloc ?_ _)))) (Nat.le_refl _) _)
  generalize (w2.alloc (.cells Z30 30)).setRow w2.heap.size #[.int .i64 10, .int .i64 2, .int .i64 3, .int .i64 0, .int .i64 0, .int .i64 0, .string ⟨#[]⟩, .int .i64 0, .int .i64 0, .bool false, .string ⟨#[]⟩, .bool false, .int .i64 0, .int .i64 0, .slice wp 0 xc, .slice kp 0 yc] = w3 at *
  generalize w2.heap.size = b3 at *
  have c3 := hp_cell k3
  clear k3
  have HB := Lib.hid hb3
  clear hb1 hb2 hb3
  go_wp2
  go_ret
  exact ⟨rfl, HB.out⟩

end Go.Proofs.Ytiklpifaaogcpaa

namespace Go.Proofs.Ytiklpifaaogcpaa
open Go.RowKit Go.Cl Go.Wr Go.Kc
set_option maxRecDepth 100000
set_option linter.unusedVariables false
set_option linter.unusedSimpArgs false


theorem ld_wp {o : Oper} {a : Act} {w : World} {K : Act → World → Prop} {Q : Exit → Act → World → Prop} (x : Operand) (ho : o.op = .load 30 x) (g : Nat) (hx : a.eval x = .pointer (some ⟨g, 0, none⟩)) (cs : Array Value) {t : TypeId} {fr : Nat × Nat} (h : hp w g = some (.cells cs t fr)) (hs : cs.size = 16)
    (hr : K (a.put o.dst (.agg cs)) w) : o.wp Try.prog a w K Q := by
  refine wp_load_mid 30 x ho g 0 hx cs.toList _ (fun j v hv => ?_) Try.underlying30 rfl (by rw [info30]; simp [hs]) (by simpa using hr)
  rw [Nat.zero_add, hp_cell h]; simpa using hv
theorem ld_opg {ops : Array Oper} {rest : List Oper} {o : Oper} {a : Act} {w : World} {Q : Exit → Act → World → Prop} (hw : Region.wanted o (yielded ops a.tmps) = true) (x : Operand) (ho : o.op = .load 30 x) (g : Nat) (hx : a.eval x = .pointer (some ⟨g, 0, none⟩)) (cs : Array Value) {t : TypeId} {fr : Nat × Nat} (h : hp w g = some (.cells cs t fr)) (hs : cs.size = 16)
    (hr : wpList Try.prog ops Q rest (a.put o.dst (.agg cs)) w) : wpList Try.prog ops Q (o :: rest) a w := by
  refine wpList_step fun K hK => ?_
  rw [if_pos hw]
  exact ld_wp x ho g hx cs h hs (hK _ _ hr)
theorem zero_cs : Mg.cs Mg.zero none 0 none 0 = Z30 := rfl
set_option maxHeartbeats 2000000 in
theorem c_form_err (s : ByteArray) (hs : s.size ≤ maxLen) (w w0 w1 : World) (hb0 : Below w.heap.size w w0) (hb1 : Below w0.heap.size w0 w1) : True := trivial
set_option maxHeartbeats 4000000 in
theorem c_form (s : ByteArray) (hs : s.size ≤ maxLen) (w : World) : Calls Try.prog 7 #[.string s] w fun e w' => e = .returned (.bool true) ∧ Below w.heap.size w w' := by
  have HS := Lib.hid hs; clear hs
  go_enter Try.func7, Try.ntmps7
  go_wp2_with fail
  refine (c_fixed w).mono ?_
  rintro e w0 ⟨rfl, hb0⟩
  go_wp2_with fail
  refine (c_decode s HS.out w0).mono ?_
  rintro e w1 ⟨hb1, hD⟩
  rcases hD with ⟨er, hd, rfl⟩ | ⟨m, c, wp, wc, kp, kc, hd, rfl, hc, hrw, hrk⟩
  · dsimp only
    iterate 10 go_step
    refine al_op rfl rfl ?_
    simp only [Act.put, List.setIfInBounds_toArray, List.set_cons_zero, List.set_cons_succ]
    refine st_op rfl (.tmp 3) (.tmp 12) rfl w1.heap.size Z30 rfl rfl Z30 (hp_alloc_new _ _) rfl rfl (by simp [Z30, Value.oneCell']) ?_
    simp only [Act.put, List.setIfInBounds_toArray, List.set_cons_zero, List.set_cons_succ]
    have k3 := hp_row (cs' := Z30) (hp_alloc_new w1 (.cells Z30 30))
    have hb3 : Below w.heap.size w ((w1.alloc (.cells Z30 30)).setRow w1.heap.size Z30) := below_call (below_call hb0 hb1) (below_row (by (repeat (first | (with_reducible exact Below.refl _ _) | (with_reducible refine below_drew ?_) | (with_reducible refine below_alloc ?_ _)))) (Nat.le_refl _) _)
    generalize (w1.alloc (.cells Z30 30)).setRow w1.heap.size Z30 = w3 at *
    generalize w1.heap.size = b3 at *
    have HB := Lib.hid hb3
    have HE := Lib.hid (form_err hd)
    have hne : (er != 0) = true := by have := HE.out; simp; omega
    clear hb0 hb1 hb3 hd
    iterate 21 go_step
    refine ld_op rfl (.tmp 3) rfl b3 rfl _ k3 rfl ?_
    simp only [Act.put, List.setIfInBounds_toArray, List.set_cons_zero, List.set_cons_succ]
    go_wp2_with fail
    refine (c_same w3 Mg.zero Mg.zero none none none none 0 0 0 0 (lsW0 _) (lsS0 _) (lsW0 _) (lsS0 _)).mono ?_
    rintro e w4 ⟨b, rfl, hb, hb4⟩
    have hbt : b = true := hb.2 rfl
    subst hbt
    clear hb
    have he2 : (er == 1) = true ∨ ((er == 1) = false ∧ 10 ≤ er ∧ er ≤ 13) := by have := HE.out; by_cases h : er = 1; exact .inl (by simpa using h); exact .inr ⟨by simpa using h, by omega, by omega⟩
    rcases he2 with h1 | ⟨h1, h2, h3⟩
    · go_wp2
      go_ret
      exact ⟨rfl, below_call HB.out hb4⟩
    · go_wp2
      go_ret
      exact ⟨rfl, below_call HB.out hb4⟩
  have HZ : Hid ((m.cs wp wc kp kc).size = 16 ∧ (m.cs wp wc kp kc).all (·.oneCell') = true) := Lib.hid ⟨rfl, by simp [Mg.cs, Value.oneCell']⟩
  obtain ⟨hm1, hm2, hm3⟩ := form_ok hd
  have HM := Lib.hid (And.intro hm1 (And.intro hm2 hm3))
  have HEN := Lib.hid (c_encode m hm2 wp wc kp kc)
  have HCH := Lib.hid (c_check m wp wc kp kc)
  have HRW := Lib.hid (And.intro (row_lsW hrw) (row_lsS hrk))
  clear hd hm1 hm2 hm3 hrw hrk hc
  generalize m.cs wp wc kp kc = A at *
  dsimp only
  iterate 10 go_step
  refine al_op rfl rfl ?_
  simp only [Act.put, List.setIfInBounds_toArray, List.set_cons_zero, List.set_cons_succ]
  refine st_op rfl (.tmp 3) (.tmp 12) rfl w1.heap.size A rfl rfl Z30 (hp_alloc_new _ _) rfl HZ.out.1 HZ.out.2 ?_
  simp only [Act.put, List.setIfInBounds_toArray, List.set_cons_zero, List.set_cons_succ]
  have k3 := hp_row (cs' := A) (hp_alloc_new w1 (.cells Z30 30))
  have hb13 : Below w1.heap.size w1 ((w1.alloc (.cells Z30 30)).setRow w1.heap.size A) := below_row (by (repeat (first | (with_reducible exact Below.refl _ _) | (with_reducible refine below_drew ?_) | (with_reducible refine below_alloc ?_ _)))) (Nat.le_refl _) _
  have HB := Lib.hid (below_call (below_call hb0 hb1) hb13)
  have HWK := Lib.hid (And.intro (HRW.out.1.below hb13) (HRW.out.2.below hb13))
  clear hb13 HRW hb0 hb1
  generalize (w1.alloc (.cells Z30 30)).setRow w1.heap.size A = w3 at *
  generalize w1.heap.size = b3 at *
  iterate 24 go_step
  refine ld_op rfl (.tmp 3) rfl b3 rfl _ k3 HZ.out.1 ?_
  simp only [Act.put, List.setIfInBounds_toArray, List.set_cons_zero, List.set_cons_succ]
  go_wp2_with fail
  refine (HEN.out w3 HWK.out.1 (Nat.le_trans HWK.out.1.cap.1 HWK.out.1.cap.2) HWK.out.2 (Nat.le_trans HWK.out.2.cap.1 HWK.out.2.cap.2)).mono ?_
  rintro e w4 ⟨he, -, hb4⟩
  obtain rfl := he HM.out.2.2
  clear he
  rw [HM.out.1, show (⟨s.data.toList.toArray⟩ : ByteArray) = s from by simp]
  have k4 : hp w4 b3 = some (.cells A 30 (0, 0)) := hp_below hb4 k3
  dsimp only
  iterate 42 go_step
  refine ld_opg (by rfl) (.tmp 3) rfl b3 rfl _ k4 HZ.out.1 ?_
  simp only [Act.put, List.setIfInBounds_toArray, List.set_cons_zero, List.set_cons_succ]
  go_wp2_with fail
  refine (HCH.out w4 (HWK.out.1.below hb4) (Nat.le_trans HWK.out.1.cap.1 HWK.out.1.cap.2) (HWK.out.2.below hb4) (Nat.le_trans HWK.out.2.cap.1 HWK.out.2.cap.2)).mono ?_
  rintro e w5 ⟨rfl, hb5⟩
  rw [HM.out.2.2]
  go_wp2
  go_ret
  exact ⟨rfl, below_call (below_call HB.out hb4) hb5⟩

end Go.Proofs.Ytiklpifaaogcpaa

namespace Go.Proofs.Ytiklpifaaogcpaa
open Go.RowKit Go.Cl Go.Wr Go.Kc
set_option maxRecDepth 100000
set_option linter.unusedVariables false
set_option linter.unusedSimpArgs false


/-- What is read where e stands: a; cut short, error 10. -/
structure Rz {α : Type} (X : List UInt8 → M Nat α) (a : α) (e : List UInt8) : Prop where
  full : ∀ pre rest, X (pre ++ (e ++ rest)) pre.length = (.ok a, (pre ++ e).length)
  cut : ∀ pre k, k < e.length → ∃ p', X (pre ++ e.take k) pre.length = (.error 10, p')
theorem Rz.bind {α β : Type} {X : List UInt8 → M Nat α} {F : List UInt8 → α → M Nat β} {a : α} {b : β} {e e' : List UInt8} (h : Rz X a e) (h' : Rz (fun s => F s a) b e') : Rz (fun s => (X s).bind (F s)) b (e ++ e') := by
  constructor
  · intro pre rest
    have h1 := h.full pre (e' ++ rest)
    have h2 := h'.full (pre ++ e) rest
    have e1 : pre ++ (e ++ e' ++ rest) = pre ++ (e ++ (e' ++ rest)) := by simp
    have e2 : pre ++ (e ++ (e' ++ rest)) = pre ++ e ++ (e' ++ rest) := by simp
    rw [e1]
    unfold M.bind
    rw [h1]
    dsimp only
    rw [e2]
    simpa using h2
  · intro pre k hk
    by_cases hke : k < e.length
    · obtain ⟨p', h1⟩ := h.cut pre k hke
      refine ⟨p', ?_⟩
      rw [List.take_append_of_le_length (by omega)]
      unfold M.bind
      rw [h1]
    · rw [List.length_append] at hk
      obtain ⟨p', h1⟩ := h'.cut (pre ++ e) (k - e.length) (by omega)
      refine ⟨p', ?_⟩
      rw [List.take_append, List.take_of_length_le (by omega)]
      unfold M.bind
      rw [h.full pre (e'.take (k - e.length))]
      dsimp only
      have e2 : pre ++ (e ++ e'.take (k - e.length)) = pre ++ e ++ e'.take (k - e.length) := by simp
      rw [e2]
      exact h1
theorem Rz.ret {α : Type} (a : α) : Rz (fun _ => (M.ret a : M Nat α)) a [] := ⟨fun pre rest => by simp [M.ret], fun pre k h => by simp at h⟩
theorem rz_num {n0 n : Int} (h : I64 n) : Rz (fun s => (inO s).num n0) n (encN n) := by
  constructor
  · intro pre rest
    show ofR id (rNum _ _) = _
    unfold encN
    rw [num_read h.1 h.2]
    simp [ofR]
  · intro pre k hk
    show ∃ p', ofR id (rNum _ _) = _
    unfold encN at hk ⊢
    unfold rNum
    rw [if_pos rfl, number_cut h.1 h.2 _ _ hk]
    exact ⟨_, rfl⟩
theorem rz_bool {n0 n : Bool} : Rz (fun s => (inO s).bool n0) n (bol n) := by
  constructor
  · intro pre rest
    show ofR id (rBool _ _) = _
    rw [bit_read]
    simp [ofR]
  · intro pre k hk
    show ∃ p', ofR id (rBool _ _) = _
    have : k = 0 := by unfold bol at hk; split at hk <;> simp at hk <;> omega
    subst this
    refine ⟨pre.length, ?_⟩
    simp [rBool, ofR]
theorem rz_text {n0 n : ByteArray} {most : Int} (hm : (n.size : Int) ≤ most) (hm2 : n.size ≤ 9223372036854775807) : Rz (fun s => (inO s).text n0 most) n (encT' n) := by
  have hl : n.data.toList.length = n.size := by simp
  constructor
  · intro pre rest
    show ofR (fun l : List UInt8 => (⟨l.toArray⟩ : ByteArray)) (rText _ _ _) = _
    unfold encT'
    rw [text_read _ (by omega) _ _ _ (by omega)]
    simp [ofR]
  · intro pre k hk
    show ∃ p', ofR (fun l : List UInt8 => (⟨l.toArray⟩ : ByteArray)) (rText _ _ _) = _
    unfold encT' txt at hk ⊢
    rw [List.length_append] at hk
    unfold rText
    rw [if_pos rfl]
    by_cases hn : k < (num (zz n.data.toList.length)).length
    · rw [List.take_append_of_le_length (by omega), number_cut (by omega) (by omega) _ _ hn]
      exact ⟨_, rfl⟩
    · have e1 : (num (zz n.data.toList.length) ++ n.data.toList).take k = num (zz n.data.toList.length) ++ n.data.toList.take (k - (num (zz n.data.toList.length)).length) := by
        rw [List.take_append, List.take_of_length_le (by omega)]
      rw [e1, number_of (by omega) (by omega)]
      simp only
      rw [if_neg (by omega), if_pos (by simp only [List.length_append, List.length_take]; omega)]
      exact ⟨_, rfl⟩

theorem Rz.eq {α : Type} {X : List UInt8 → M Nat α} {a : α} {e e' : List UInt8} (h : Rz X a e) (he : e = e') : Rz X a e' := he ▸ h
theorem rz_value {h0 h : Bool} {d0 d : ByteArray} (hd : d.size ≤ 256) (h0d : h = false → d = d0) : Rz (fun s => valueT (inO s) h0 d0) (h, d) (encV h d) := by
  unfold valueT encV
  refine Rz.bind rz_bool ?_
  cases h
  · obtain rfl := h0d rfl
    exact Rz.ret _
  · have := Rz.bind (rz_text (n0 := d0) (n := d) (most := 256) (by omega) (by omega)) (F := fun _ d' => M.ret (true, d')) (b := (true, d)) (e' := []) (Rz.ret _)
    simpa [encT'] using this
theorem rz_pin {lo0 hi0 lo hi : Int} (h1 : I64 lo) (h2 : I64 hi) : Rz (fun s => pinT (inO s) lo0 hi0) (lo, hi) (encP lo hi) := by
  have := Rz.bind (rz_num (n0 := lo0) h1) (F := fun s lo' => ((inO s).num hi0).bind fun hi' => M.ret (lo', hi')) (b := (lo, hi)) (Rz.bind (rz_num (n0 := hi0) h2) (F := fun _ hi' => M.ret (lo, hi')) (Rz.ret _))
  exact Rz.eq this (by simp [encN, encP])
theorem rz_elem {x0 x : Wt} (hk : x.k.size ≤ 32) (hd : x.d.size ≤ 256) (h0 : x.h = false → x.d = x0.d) : Rz (fun s => elemT (inO s) x0) x (encE x) := by
  have := Rz.bind (rz_text (n0 := x0.k) (n := x.k) (most := 32) (by omega) (by omega)) (F := fun s k => (valueT (inO s) x0.h x0.d).bind fun v => M.ret (⟨k, v.1, v.2⟩ : Wt)) (b := x) (Rz.bind (rz_value (h0 := x0.h) hd h0) (F := fun _ v => M.ret (⟨x.k, v.1, v.2⟩ : Wt)) (Rz.ret _))
  exact Rz.eq this (by simp [encT', encE])
theorem rz_map {α : Type} {one : List UInt8 → α → M Nat α} {enc : α → List UInt8} {z : α} : ∀ (l : List α), (∀ x ∈ l, Rz (fun s => one s z) x (enc x)) → Rz (fun s => mapT (one s) (List.replicate l.length z)) l (l.flatMap enc)
  | [], _ => Rz.ret _
  | x :: l, H => by
    have := Rz.bind (H x (by simp)) (F := fun s y => (mapT (one s) (List.replicate l.length z)).bind fun r => M.ret (y :: r)) (b := x :: l) (Rz.bind (rz_map l (fun y hy => H y (by simp [hy]))) (F := fun _ r => M.ret (x :: r)) (Rz.ret _))
    exact Rz.eq this (by simp)
theorem rz_list {α : Type} {one : List UInt8 → α → M Nat α} {enc : α → List UInt8} {z : α} (l : List α) (H : ∀ x ∈ l, Rz (fun s => one s z) x (enc x)) (h1 : 1 ≤ l.length) (h8 : l.length ≤ 8) :
    Rz (fun s => listT (inO s) (one s) z []) l (encN l.length ++ l.flatMap enc) := by
  unfold listT
  refine Rz.bind (rz_num ⟨by omega, by omega⟩) ?_
  have hn : ¬ ((l.length : Int) < 1 ∨ 8 < (l.length : Int)) := by omega
  simp only [if_neg hn]
  simpa using rz_map l H

end Go.Proofs.Ytiklpifaaogcpaa

namespace Go.Proofs.Ytiklpifaaogcpaa
open Go.RowKit Go.Cl Go.Wr Go.Kc
set_option maxRecDepth 100000
set_option linter.unusedVariables false
set_option linter.unusedSimpArgs false


theorem rz_full {m0 : Mg} {has : Bool} {data : ByteArray} {lo hi : Int} (hd : data.size ≤ 256) (h0 : has = false → data = m0.data) (h1 : I64 lo) (h2 : I64 hi) :
    Rz (fun s => fullT (inO s) m0) { m0 with has := has, data := data, lo := lo, hi := hi } (encV has data ++ encP lo hi) := by
  unfold fullT
  refine Rz.eq (Rz.bind (rz_value hd h0) (Rz.bind (rz_pin h1 h2) (Rz.ret _))) (by simp)
theorem rz_asked {m0 : Mg} {tx seq : Int} (h1 : I64 tx) (h2 : I64 seq) : Rz (fun s => askedT (inO s) m0) { m0 with tx := tx, seq := seq } (encN tx ++ encN seq) := by
  unfold askedT
  refine Rz.eq (Rz.bind (rz_num h1) (Rz.bind (rz_num h2) (Rz.ret _))) (by simp)
theorem rz_keyed {m0 : Mg} {tx seq lo hi : Int} {key : ByteArray} (h1 : I64 tx) (h2 : I64 seq) (hk : key.size ≤ 32) (h3 : I64 lo) (h4 : I64 hi) :
    Rz (fun s => keyedT (inO s) m0) { m0 with tx := tx, seq := seq, key := key, lo := lo, hi := hi } (encN tx ++ encN seq ++ encT' key ++ encP lo hi) := by
  unfold keyedT
  refine Rz.eq (Rz.bind (rz_asked h1 h2) (Rz.bind (rz_text (by omega) (by omega)) (Rz.bind (rz_pin h3 h4) (Rz.ret _)))) (by simp)
theorem emp_of {k : ByteArray} (h : k.size = 0) : k = emp := by
  apply ByteArray.ext
  exact Array.eq_empty_of_size_eq_zero h
theorem len_nil {α : Type} {l : List α} (h : l.length = 0) : l = [] := List.length_eq_zero_iff.1 h
theorem goodV_le {h : Bool} {d : ByteArray} (hg : goodV h d) : d.size ≤ 256 ∧ (h = false → d = emp) := by
  unfold goodV at hg
  cases h
  · rw [if_neg (by decide)] at hg
    exact ⟨by omega, fun _ => emp_of hg⟩
  · rw [if_pos rfl] at hg
    exact ⟨hg, fun h => by cases h⟩
theorem Rz.by {α : Type} {X Y : List UInt8 → M Nat α} {a : α} {e : List UInt8} (he : ∀ s, X s = Y s) (h : Rz Y a e) : Rz X a e := (funext he : X = Y) ▸ h
theorem emp_eq : (ByteArray.empty) = emp := rfl
theorem rz_fields {m : Mg} (hIn : m.In) (hc : chkM m = 0) : Rz (fun s => fieldsT (inO s) { Mg.zero with kind := m.kind }) m (encF m) := by
  obtain ⟨hk, ho⟩ := chk_zero hc
  obtain ⟨un, nu, th⟩ := ho
  clear hc
  obtain ⟨kind, node, inc, ses, tx, seq, key, lo, hi, has, data, hit, err, n, W, K⟩ := m
  obtain ⟨u1, u2, u3, u4, u5, u6, u7, u8, u9, u10, u11, u12, u13, u14, u15⟩ := un
  obtain ⟨i1, i2, i3, i4, i5, i6, i7, i8, i9, i10⟩ := hIn
  obtain ⟨t1, t2, t3, t4, t5⟩ := th
  clear nu
  simp only [fullM] at *
  have hcs : kind = 1 ∨ kind = 2 ∨ kind = 3 ∨ kind = 4 ∨ kind = 5 ∨ kind = 6 ∨ kind = 7 ∨ kind = 8 ∨ kind = 9 ∨ kind = 10 ∨ kind = 11 := by omega
  rcases hcs with rfl | rfl | rfl | rfl | rfl | rfl | rfl | rfl | rfl | rfl | rfl <;> simp at u1 u2 u3 u4 u5 u6 u7 u8 u9 u10 u11 u12 u13 u14 u15
  · obtain ⟨g1, g2, g3⟩ := t1 rfl
    clear t1 t2 t3 t4 t5
    subst_vars
    refine Rz.by (fun s => fields_1 _ _ rfl) ?_
    refine Rz.eq (Rz.bind (rz_num i4) (Rz.bind (rz_num i6) (Rz.bind (rz_list W (fun x hx => rz_elem (g1 x hx).1.2 (goodV_le (g1 x hx).2).1 (goodV_le (g1 x hx).2).2) g2 g3) (Rz.ret _)))) ?_
    simp [encF]
  · clear t1 t2 t3 t4 t5
    subst_vars
    refine Rz.by (fun s => fields_2 _ _ rfl) ?_
    refine Rz.eq (Rz.bind (rz_num i4) (Rz.bind (rz_num i6) (Rz.bind (rz_num i9) (Rz.bind (rz_num i10) (Rz.ret _))))) ?_
    simp [encF]
  · obtain ⟨g1, g2⟩ := t3 (Or.inl rfl)
    clear t1 t2 t3 t4 t5
    subst_vars
    refine Rz.by (fun s => fields_3 _ _ rfl) ?_
    refine Rz.eq (Rz.bind (rz_num i2) (Rz.bind (rz_asked i5 i6) (Rz.bind (rz_text (by have := g1.2; omega) (by have := g1.2; omega)) (Rz.bind (rz_pin i7 i8) (Rz.ret _))))) ?_
    simp [encF]
  · cases hit
    · clear t1 t2 t3 t4 t5
      simp at u7 u8 u9 u10
      subst_vars
      refine Rz.by (fun s => fields_4 _ _ rfl) ?_
      refine Rz.eq (Rz.bind (rz_asked i5 i6) (Rz.bind (rz_bool (n := false)) (Rz.ret _))) ?_
      simp [encF]
    · obtain ⟨g1, g2⟩ := t5 (Or.inl ⟨rfl, rfl⟩)
      clear t1 t2 t3 t4 t5
      simp at u7 u8 u9 u10
      subst_vars
      refine Rz.by (fun s => fields_4 _ _ rfl) ?_
      refine Rz.eq (Rz.bind (rz_asked i5 i6) (Rz.bind (rz_bool (n := true)) (Rz.bind (rz_value (goodV_le g1).1 (goodV_le g1).2) (Rz.bind (rz_pin i7 i8) (Rz.ret _))))) ?_
      simp [encF]
  · obtain ⟨g1, g2⟩ := t3 (Or.inr (Or.inl rfl))
    clear t1 t2 t3 t4 t5
    subst_vars
    refine Rz.by (fun s => fields_5 _ _ rfl) ?_
    refine Rz.eq (Rz.bind (rz_asked i5 i6) (Rz.bind (rz_text (by have := g1.2; omega) (by have := g1.2; omega)) (Rz.bind (rz_pin i7 i8) (Rz.ret _)))) ?_
    simp [encF]
  · by_cases he : err = 0
    · obtain ⟨g1, g2⟩ := t5 (Or.inr ⟨rfl, he⟩)
      clear t1 t2 t3 t4 t5
      subst he
      simp at u7 u8 u9 u10
      subst_vars
      refine Rz.by (fun s => fields_6 _ _ rfl) ?_
      refine Rz.eq (Rz.bind (rz_asked i5 i6) (Rz.bind (rz_num i9) (Rz.eq (Rz.by (fun s => if_pos rfl) (Rz.bind (rz_value (goodV_le g1).1 (goodV_le g1).2) (Rz.bind (rz_pin i7 i8) (Rz.ret _)))) rfl))) ?_
      simp [encF]
    · clear t1 t2 t3 t4 t5
      simp [he] at u7 u8 u9 u10
      subst_vars
      refine Rz.by (fun s => fields_6 _ _ rfl) ?_
      refine Rz.eq (Rz.bind (rz_asked i5 i6) (Rz.bind (rz_num i9) (Rz.by (fun s => if_neg he) (Rz.ret _)))) ?_
      simp [encF, he]
  · obtain ⟨g1, g2⟩ := t3 (Or.inr (Or.inr rfl))
    have g3 := t4 rfl
    clear t1 t2 t3 t4 t5
    subst_vars
    refine Rz.by (fun s => (fields_0 _ _ (by decide) (by decide) (by decide) (by decide) (by decide) (by decide)).trans (told_7 _ _ rfl)) ?_
    refine Rz.eq (Rz.bind (rz_num i2) (Rz.bind (rz_text (by have := g1.2; omega) (by have := g1.2; omega)) (Rz.bind (rz_value (goodV_le g3).1 (goodV_le g3).2) (Rz.bind (rz_pin i7 i8) (Rz.bind (rz_num i10) (Rz.ret _)))))) ?_
    simp [encF]
  · obtain ⟨g1, g2, g3⟩ := t2 rfl
    clear t1 t2 t3 t4 t5
    subst_vars
    refine Rz.by (fun s => (fields_0 _ _ (by decide) (by decide) (by decide) (by decide) (by decide) (by decide)).trans (told_8 _ _ rfl)) ?_
    refine Rz.eq (Rz.bind (rz_num i2) (Rz.bind (rz_num i10) (Rz.bind (rz_list K (fun x hx => rz_text (by have := (g1 x hx).2; omega) (by have := (g1 x hx).2; omega)) g2 g3) (Rz.ret _)))) ?_
    simp [encF]
  · clear t1 t2 t3 t4 t5
    subst_vars
    refine Rz.by (fun s => (fields_0 _ _ (by decide) (by decide) (by decide) (by decide) (by decide) (by decide)).trans (told_9 _ _ rfl)) ?_
    refine Rz.eq (Rz.bind (rz_num i2) (Rz.bind (rz_num i10) (Rz.ret _))) ?_
    simp [encF]
  · clear t1 t2 t3 t4 t5
    subst_vars
    refine Rz.by (fun s => (fields_0 _ _ (by decide) (by decide) (by decide) (by decide) (by decide) (by decide)).trans (told_10 _ _ rfl)) ?_
    refine Rz.eq (Rz.bind (rz_num i2) (Rz.bind (rz_num i3) (Rz.ret _))) ?_
    simp [encF]
  · clear t1 t2 t3 t4 t5
    subst_vars
    refine Rz.by (fun s => (fields_0 _ _ (by decide) (by decide) (by decide) (by decide) (by decide) (by decide)).trans (told_11 _ _ rfl)) ?_
    refine Rz.eq (Rz.bind (rz_num i2) (Rz.bind (rz_num i3) (Rz.bind (rz_num i10) (Rz.ret _)))) ?_
    simp [encF]

end Go.Proofs.Ytiklpifaaogcpaa

namespace Go.Proofs.Ytiklpifaaogcpaa
open Go.RowKit Go.Cl Go.Wr Go.Kc
set_option maxRecDepth 100000
set_option linter.unusedVariables false
set_option linter.unusedSimpArgs false


theorem num1 (n : Int) : 1 ≤ (encN n).length := num_len_pos _
theorem txt1 (b : ByteArray) : 1 ≤ (encT' b).length := by
  have := num_len_pos (zz b.data.toList.length)
  unfold encT' txt
  rw [List.length_append]
  omega
theorem bol1 (b : Bool) : (bol b).length = 1 := by cases b <;> rfl
theorem enc_len {m : Mg} (h : chkM m = 0) : 3 ≤ (encM m).length := by
  have k0 := num1 m.kind
  have k1 := num1 m.node
  have k2 := num1 m.inc
  have k3 := num1 m.ses
  have k4 := num1 m.tx
  have k5 := num1 m.seq
  have k9 := num1 m.err
  have k10 := num1 m.n
  have kb := bol1 m.hit
  unfold encM encF
  rw [List.length_append]
  split
  · simp only [List.length_append]; omega
  split
  · simp only [List.length_append]; omega
  split
  · simp only [List.length_append]; omega
  split
  · simp only [List.length_append]; omega
  split
  · simp only [List.length_append]; omega
  split
  · simp only [List.length_append]; omega
  split
  · simp only [List.length_append]; omega
  split
  · simp only [List.length_append]; omega
  split
  · simp only [List.length_append]; omega
  split
  · simp only [List.length_append]; omega
  · simp only [List.length_append]; omega
theorem dec_pre {m : Mg} (hIn : m.In) (hc : chkM m = 0) (rest : List UInt8) : decode (encM m ++ rest) = (if rEnd (encM m ++ rest) ⟨(encM m).length, 0⟩ ≠ 0 then .error (rEnd (encM m ++ rest) ⟨(encM m).length, 0⟩ : Nat) else .ok m) := by
  obtain ⟨hk, ho⟩ := chk_zero hc
  have h1 := (rz_num (n0 := 0) hIn.kind).full [] (encF m ++ rest)
  have h2 := (rz_fields hIn hc).full (encN m.kind) rest
  have e1 : [] ++ (encN m.kind ++ (encF m ++ rest)) = encM m ++ rest := by simp [encM]
  have e2 : encN m.kind ++ (encF m ++ rest) = encM m ++ rest := by simp [encM]
  rw [e1] at h1
  simp only [e2] at h2
  have e3 : encN m.kind ++ encF m = encM m := rfl
  rw [e3] at h2
  simp only [List.length_nil, List.nil_append] at h1
  unfold decode
  rw [h1]
  dsimp only
  rw [if_pos hk, h2]
  dsimp only
  rw [hc]
  simp
theorem dec_enc {m : Mg} (hIn : m.In) (hc : chkM m = 0) : decode (encM m) = .ok m := by
  have := dec_pre hIn hc []
  rw [List.append_nil] at this
  rw [this, if_neg]
  simp [rEnd]
theorem dec_more {m : Mg} (hIn : m.In) (hc : chkM m = 0) : decode (encM m ++ [0]) = .error 12 := by
  rw [dec_pre hIn hc [0]]
  have : rEnd (encM m ++ [0]) ⟨(encM m).length, 0⟩ = 12 := by simp [rEnd]
  rw [this]
  rfl
theorem dec_cut {m : Mg} (hIn : m.In) (hc : chkM m = 0) {k : Nat} (h : k < (encM m).length) : decode ((encM m).take k) = .error 10 := by
  obtain ⟨hk, ho⟩ := chk_zero hc
  by_cases hke : k < (encN m.kind).length
  · obtain ⟨p', h1⟩ := (rz_num (n0 := 0) hIn.kind).cut [] k hke
    have e1 : [] ++ (encN m.kind).take k = (encM m).take k := by
      unfold encM
      rw [List.take_append_of_le_length (by omega)]
      rfl
    rw [e1] at h1
    simp only [List.length_nil] at h1
    unfold decode
    rw [h1]
    rfl
  · unfold encM at h
    rw [List.length_append] at h
    have e0 : (encM m).take k = encN m.kind ++ (encF m).take (k - (encN m.kind).length) := by
      unfold encM
      rw [List.take_append, List.take_of_length_le (by omega)]
    obtain ⟨p', h2⟩ := (rz_fields hIn hc).cut (encN m.kind) (k - (encN m.kind).length) (by omega)
    have h1 := (rz_num (n0 := 0) hIn.kind).full [] ((encF m).take (k - (encN m.kind).length))
    rw [e0]
    simp only [List.length_nil, List.nil_append] at h1
    unfold decode
    rw [h1]
    dsimp only
    rw [if_pos hk, h2]
    rfl

end Go.Proofs.Ytiklpifaaogcpaa

namespace Go.Proofs.Ytiklpifaaogcpaa
open Go.RowKit Go.Cl Go.Wr Go.Kc
set_option maxRecDepth 100000
set_option linter.unusedVariables false
set_option linter.unusedSimpArgs false


set_option maxHeartbeats 4000000 in
theorem c_back (m : Mg) (hIn : m.In) (wp : Option Addr) (wc : Nat) (kp : Option Addr) (kc : Nat) (cut : Int) (h0 : 0 ≤ cut) (h1 : cut ≤ 65535) (w : World) (hW : LsW w wp wc m.W) (hK : LsS w kp kc m.K) :
    Calls Try.prog 6 #[.agg (m.cs wp wc kp kc), .int .u16 cut] w fun e w' => e = .returned (.bool true) ∧ Below w.heap.size w w' := by
  have HZ : Hid ((m.cs wp wc kp kc).size = 16 ∧ (m.cs wp wc kp kc).all (·.oneCell') = true) := Lib.hid ⟨rfl, by simp [Mg.cs, Value.oneCell']⟩
  have HI := Lib.hid hIn
  have HWK := Lib.hid (And.intro hW hK)
  have HEN := Lib.hid (c_encode m hIn wp wc kp kc)
  have HCH := Lib.hid (c_check m wp wc kp kc)
  have HSA := Lib.hid (fun w' (a : Mg) wp' xc' kp' yc' h1 h2 h3 h4 => c_same w' m a wp kp wp' kp' wc kc xc' yc' h1 h2 h3 h4)
  clear hIn hW hK
  generalize m.cs wp wc kp kc = A at *
  have hz := hp_alloc_new w (.cells A 30)
  have hba : Below w.heap.size w (w.alloc (.cells A 30)) := below_alloc (Below.refl _ _) _
  have HBA := Lib.hid hba
  have HZ0 := Lib.hid hz
  clear hz hba
  go_enter Try.func6, Try.ntmps6
  go_wp2_with fail
  refine (c_fixed _).mono ?_
  rintro e w0 ⟨rfl, hb0⟩
  have hb00 := below_call HBA.out hb0
  have k2 := hp_below hb0 HZ0.out
  have HWK0 := Lib.hid (And.intro (HWK.out.1.below hb00) (HWK.out.2.below hb00))
  clear hb0
  dsimp only
  iterate 13 go_step
  refine ld_op rfl (.tmp 2) rfl w.heap.size rfl A k2 HZ.out.1 ?_
  simp only [Act.put, List.setIfInBounds_toArray, List.set_cons_zero, List.set_cons_succ]
  go_wp2_with fail
  refine (HEN.out w0 HWK0.out.1 (Nat.le_trans HWK.out.1.cap.1 HWK.out.1.cap.2) HWK0.out.2 (Nat.le_trans HWK.out.2.cap.1 HWK.out.2.cap.2)).mono ?_
  rintro e w1 ⟨he1, he2, hb1⟩
  have hb11 := below_call hb00 hb1
  have k3 := hp_below hb1 k2
  have HWK1 := Lib.hid (And.intro (HWK0.out.1.below hb1) (HWK0.out.2.below hb1))
  clear hb1 k2 HWK0 hb00 HBA HZ0
  by_cases hc : chkM m = 0
  rotate_left
  · obtain rfl := he2 hc
    have hne : (chkM m != 0) = true := by simpa using hc
    clear he1 he2
    dsimp only
    iterate 43 go_step
    refine ld_opg (by rfl) (.tmp 2) rfl w.heap.size rfl A k3 HZ.out.1 ?_
    simp only [Act.put, List.setIfInBounds_toArray, List.set_cons_zero, List.set_cons_succ]
    go_wp2_with fail
    refine (HCH.out w1 HWK1.out.1 (Nat.le_trans HWK.out.1.cap.1 HWK.out.1.cap.2) HWK1.out.2 (Nat.le_trans HWK.out.2.cap.1 HWK.out.2.cap.2)).mono ?_
    rintro e w2 ⟨rfl, hb2⟩
    go_wp2
    go_ret
    exact ⟨rfl, below_call hb11 hb2⟩
  obtain rfl := he1 hc
  clear he1 he2
  have HC := Lib.hid hc
  clear hc
  obtain ⟨s, hs⟩ : ∃ s : ByteArray, s = ⟨(encM m).toArray⟩ := ⟨_, rfl⟩
  have hsl : s.data.toList = encM m := by rw [hs]
  have hss : s.size = (encM m).length := by rw [← hsl]; simp
  rw [← hs]
  have h3 : 3 ≤ s.size := by rw [hss]; exact enc_len HC.out
  have hsz : s.size ≤ 6000 := by
    have g1 := encF_le m HI.out (chk_zero HC.out).2
    have g2 := encN_le HI.out.kind
    rw [hss]; unfold encM; rw [List.length_append]; omega
  have HS := Lib.hid (And.intro hsl (And.intro hss (And.intro h3 hsz)))
  have hl3 : ¬ ((s.size : Int) < 3) := by omega
  clear hs hsl hss h3 hsz
  go_wp2_with fail
  refine (c_decode s (Nat.le_trans HS.out.2.2.2 (by decide)) w1).mono ?_
  rintro e w2 ⟨hb2, hD⟩
  rcases hD with ⟨er, hd, rfl⟩ | ⟨m', c, wp', wc', kp', kc', hd, rfl, hcc, hrw, hrk⟩
  · rw [HS.out.1, dec_enc HI.out HC.out] at hd; cases hd
  rw [HS.out.1, dec_enc HI.out HC.out] at hd
  injection hd with hd
  subst hd
  have HRW := Lib.hid (And.intro (row_lsW hrw) (row_lsS hrk))
  have HSM := Lib.hid (fun w' h1 h2 h3 h4 => HSA.out w' m wp' wc' kp' kc' h1 h2 h3 h4)
  clear hcc hrw hrk HSA
  have HZ' : Hid ((m.cs wp' wc' kp' kc').size = 16 ∧ (m.cs wp' wc' kp' kc').all (·.oneCell') = true) := Lib.hid ⟨rfl, by simp [Mg.cs, Value.oneCell']⟩
  generalize m.cs wp' wc' kp' kc' = A' at *
  dsimp only
  iterate 10 go_step
  refine al_op rfl rfl ?_
  simp only [Act.put, List.setIfInBounds_toArray, List.set_cons_zero, List.set_cons_succ]
  refine st_op rfl (.tmp 7) (.tmp 36) rfl w2.heap.size A' rfl rfl Z30 (hp_alloc_new _ _) rfl HZ'.out.1 HZ'.out.2 ?_
  simp only [Act.put, List.setIfInBounds_toArray, List.set_cons_zero, List.set_cons_succ]
  have q7 := hp_row (cs' := A') (hp_alloc_new w2 (.cells Z30 30))
  have hb23 : Below w2.heap.size w2 ((w2.alloc (.cells Z30 30)).setRow w2.heap.size A') := below_row (by (repeat (first | (with_reducible exact Below.refl _ _) | (with_reducible refine below_drew ?_) | (with_reducible refine below_alloc ?_ _)))) (Nat.le_refl _) _
  have hb33 := below_call hb11 (below_call hb2 hb23)
  have k4 := hp_below hb23 (hp_below hb2 k3)
  have HWK3 := Lib.hid (And.intro ((HWK1.out.1.below hb2).below hb23) ((HWK1.out.2.below hb2).below hb23))
  have HRW3 := Lib.hid (And.intro (HRW.out.1.below hb23) (HRW.out.2.below hb23))
  clear hb2 hb23 k3 HWK1 HRW hb11
  generalize (w2.alloc (.cells Z30 30)).setRow w2.heap.size A' = w3 at *
  generalize w2.heap.size = b7 at *
  have hkr : 0 ≤ cut % (s.size : Int) ∧ cut % (s.size : Int) ≤ (s.size : Int) := by
    have := HS.out.2.2.1
    exact ⟨Int.emod_nonneg _ (by omega), Int.le_of_lt (Int.emod_lt_of_pos _ (by omega))⟩
  have HKR := Lib.hid (show (cut % (s.size : Int)).toNat < s.size from by
    have := HS.out.2.2.1
    have h1 := Int.emod_nonneg cut (b := (s.size : Int)) (by omega)
    have h2 := Int.emod_lt_of_pos cut (b := (s.size : Int)) (by omega)
    omega)
  go_wp2_with fail
  clear hkr
  have hcl : (s.extract 0 (cut % (s.size : Int)).toNat).data.toList = (encM m).take (cut % (s.size : Int)).toNat := by
    rw [← HS.out.1]; simp
  refine (c_decode _ (Nat.le_trans (by have := HKR.out; rw [ByteArray.size_extract]; omega) (Nat.le_trans HS.out.2.2.2 (by decide))) w3).mono ?_
  rintro e w4 ⟨hb4, hD⟩
  rw [hcl, dec_cut HI.out HC.out (by have := HKR.out; have := HS.out.2.1; omega)] at hD
  clear hcl
  rcases hD with ⟨er, hd, rfl⟩ | ⟨m', c, wp1, wc1, kp1, kc1, hd, _⟩
  rotate_left
  · cases hd
  injection hd with hd
  subst hd
  generalize s.extract 0 (cut % (s.size : Int)).toNat = scut at *
  generalize cut % (s.size : Int) = kcut at *
  dsimp only
  iterate 10 go_step
  refine al_op rfl rfl ?_
  simp only [Act.put, List.setIfInBounds_toArray, List.set_cons_zero, List.set_cons_succ]
  refine st_op rfl (.tmp 9) (.tmp 47) rfl w4.heap.size Z30 rfl rfl Z30 (hp_alloc_new _ _) rfl rfl (by simp [Z30, Value.oneCell']) ?_
  simp only [Act.put, List.setIfInBounds_toArray, List.set_cons_zero, List.set_cons_succ]
  have hb45 : Below w4.heap.size w4 ((w4.alloc (.cells Z30 30)).setRow w4.heap.size Z30) := below_row (by (repeat (first | (with_reducible exact Below.refl _ _) | (with_reducible refine below_drew ?_) | (with_reducible refine below_alloc ?_ _)))) (Nat.le_refl _) _
  have hb55 := below_call hb33 (below_call hb4 hb45)
  have k5 := hp_below hb45 (hp_below hb4 k4)
  have q8 := hp_below hb45 (hp_below hb4 q7)
  have HWK5 := Lib.hid (And.intro ((HWK3.out.1.below hb4).below hb45) ((HWK3.out.2.below hb4).below hb45))
  have HRW5 := Lib.hid (And.intro ((HRW3.out.1.below hb4).below hb45) ((HRW3.out.2.below hb4).below hb45))
  clear hb4 hb45 k4 q7 HWK3 HRW3 hb33
  generalize (w4.alloc (.cells Z30 30)).setRow w4.heap.size Z30 = w5 at *
  generalize w4.heap.size = b9 at *
  have hcat : ¬ 9223372036854775807 < s.size + 1 := by have := HS.out.2.2.2; omega
  go_wp2_with fail
  clear hcat
  have hcl : (s ++ (⟨#[0]⟩ : ByteArray)).data.toList = encM m ++ [0] := by
    rw [← HS.out.1]; simp
  refine (c_decode _ (by rw [ByteArray.size_append]; exact Nat.le_trans (Nat.add_le_add_right HS.out.2.2.2 _) (by decide)) w5).mono ?_
  rintro e w6 ⟨hb6, hD⟩
  rw [hcl, dec_more HI.out HC.out] at hD
  clear hcl
  rcases hD with ⟨er, hd, rfl⟩ | ⟨m', c, wp1, wc1, kp1, kc1, hd, _⟩
  rotate_left
  · cases hd
  injection hd with hd
  subst hd
  generalize s ++ (⟨#[0]⟩ : ByteArray) = smore at *
  dsimp only
  iterate 10 go_step
  refine al_op rfl rfl ?_
  simp only [Act.put, List.setIfInBounds_toArray, List.set_cons_zero, List.set_cons_succ]
  refine st_op rfl (.tmp 11) (.tmp 53) rfl w6.heap.size Z30 rfl rfl Z30 (hp_alloc_new _ _) rfl rfl (by simp [Z30, Value.oneCell']) ?_
  simp only [Act.put, List.setIfInBounds_toArray, List.set_cons_zero, List.set_cons_succ]
  have hb67 : Below w6.heap.size w6 ((w6.alloc (.cells Z30 30)).setRow w6.heap.size Z30) := below_row (by (repeat (first | (with_reducible exact Below.refl _ _) | (with_reducible refine below_drew ?_) | (with_reducible refine below_alloc ?_ _)))) (Nat.le_refl _) _
  have hb77 := below_call hb55 (below_call hb6 hb67)
  have k7 := hp_below hb67 (hp_below hb6 k5)
  have q9 := hp_below hb67 (hp_below hb6 q8)
  have HWK7 := Lib.hid (And.intro ((HWK5.out.1.below hb6).below hb67) ((HWK5.out.2.below hb6).below hb67))
  have HRW7 := Lib.hid (And.intro ((HRW5.out.1.below hb6).below hb67) ((HRW5.out.2.below hb6).below hb67))
  clear hb6 hb67 k5 q8 HWK5 HRW5 hb55
  generalize (w6.alloc (.cells Z30 30)).setRow w6.heap.size Z30 = w7 at *
  generalize w6.heap.size = b11 at *
  iterate 17 go_step
  refine ld_opg (by rfl) (.tmp 2) rfl w.heap.size rfl A k7 HZ.out.1 ?_
  simp only [Act.put, List.setIfInBounds_toArray, List.set_cons_zero, List.set_cons_succ]
  refine ld_opg (by rfl) (.tmp 7) rfl b7 rfl A' q9 HZ'.out.1 ?_
  simp only [Act.put, List.setIfInBounds_toArray, List.set_cons_zero, List.set_cons_succ]
  go_wp2_with fail
  refine (HSM.out w7 HWK7.out.1 HWK7.out.2 HRW7.out.1 HRW7.out.2).mono ?_
  rintro e w8 ⟨b, rfl, hb, hb8⟩
  obtain rfl : b = true := hb.2 (by first | trivial | rfl)
  clear hb
  go_wp2
  go_ret
  exact ⟨rfl, below_call hb77 hb8⟩

end Go.Proofs.Ytiklpifaaogcpaa
