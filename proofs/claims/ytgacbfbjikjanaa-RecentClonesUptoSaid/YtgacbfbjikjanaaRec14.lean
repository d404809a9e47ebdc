/- Recent: what is held of all that was noted. -/
import Derived.Test.YtgacbfbjikjanaaRec12
import Derived.WalkKit
import Derived.WalkLawsBesides
import Derived.WalkSpells
import Derived.Below
import Derived.Deep.RegionHeld3
import Derived.Deep.QuietTactic
import Derived.BigQuiet
import Derived.Deep.DeepCutAuto
import Derived.Deep.DeepMust
import Derived.KernelRfl
import Derived.Lib.Hide
import Derived.Outline
import Derived.RegionTactic
import Derived.StillTailTactics
namespace Go.Proofs.Ytgacbfbjikjanaa
open Go.RowKit Go.Cl Go.Rdr
set_option maxRecDepth 100000
set_option linter.unusedVariables false
set_option linter.unusedSimpArgs false


/-- The marks of the first n lists. -/
def evN (Ls : List (List ByteArray)) (n : Nat) : List Mk := (List.range n).flatMap fun i => (Ls.getD i []).map fun k => ((i : Int) + 1, k)
theorem evN_succ (Ls : List (List ByteArray)) (n : Nat) : evN Ls (n + 1) = evN Ls n ++ (Ls.getD n []).map (fun k => ((n : Int) + 1, k)) := by
  simp [evN, List.range_succ, List.flatMap_append]
theorem evN_mem {Ls : List (List ByteArray)} {n : Nat} {m : Mk} (h : m ∈ evN Ls n) : 1 ≤ m.1 ∧ m.1 ≤ n := by
  simp only [evN, List.mem_flatMap, List.mem_range, List.mem_map] at h
  obtain ⟨i, hi, k, _, rfl⟩ := h
  simp only
  omega
theorem same_sorted (N : Int) (ks : List ByteArray) : (ks.map (fun k => ((N, k) : Mk))).Pairwise (fun a b => a.1 ≤ b.1) := by
  rw [List.pairwise_iff_getElem]
  intro i j hi hj _
  simp
theorem evN_sorted_at (Ls : List (List ByteArray)) (n : Nat) (ks : List ByteArray) (h : (evN Ls n).Pairwise (fun a b => a.1 ≤ b.1)) : (evN Ls n ++ ks.map (fun k => (((n : Int) + 1, k) : Mk))).Pairwise (fun a b => a.1 ≤ b.1) := by
  rw [List.pairwise_append]
  refine ⟨h, same_sorted _ _, ?_⟩
  intro a ha b hb
  have h1 := evN_mem ha
  simp only [List.mem_map] at hb
  obtain ⟨k, _, rfl⟩ := hb
  simp only
  omega
theorem evN_sorted (Ls : List (List ByteArray)) (n : Nat) : (evN Ls n).Pairwise (fun a b => a.1 ≤ b.1) := by
  induction n with
  | zero => simp [evN]
  | succ n ih => rw [evN_succ]; exact evN_sorted_at Ls n _ ih
theorem evN_prefix (Ls : List (List ByteArray)) (a d : Nat) : ∃ r, evN Ls (a + d) = evN Ls a ++ r := by
  induction d with
  | zero => exact ⟨[], by simp⟩
  | succ d ih =>
    obtain ⟨r, hr⟩ := ih
    exact ⟨r ++ _, by rw [show a + (d + 1) = (a + d) + 1 from rfl, evN_succ, hr, List.append_assoc]⟩
theorem notM_eq (R : Nat) (st : List Mk × Int) (N : Int) (keys : List ByteArray) : notM R st N keys = (keys.map (fun k => ((N, k) : Mk))).foldl (putM R) st := by
  unfold notM; rw [List.foldl_map]
/-- What is held of all that was noted. -/
def HInv (R : Nat) (E L : List Mk) (since : Int) : Prop := ∃ D, E = D ++ L ∧ (∀ d ∈ D, d.1 ≤ since) ∧ ((D = [] ∧ since = 0) ∨ ∃ D' h, D = D' ++ [h] ∧ h.1 = since ∧ L.length = R)
theorem HInv.put {R : Nat} {E L : List Mk} {since : Int} {m : Mk} (h : HInv R E L since) (hR : L.length ≤ R) (hs : (E ++ [m]).Pairwise (fun a b => a.1 ≤ b.1)) :
    HInv R (E ++ [m]) (putM R (L, since) m).1 (putM R (L, since) m).2 := by
  obtain ⟨D, rfl, hD, hc⟩ := h
  unfold putM
  split
  · rename_i hlt
    simp only [List.length_append, List.length_cons, List.length_nil] at hlt
    cases hq : L ++ [m] with
    | nil => simp at hq
    | cons x t =>
      have hl : (L ++ [m]).length = t.length + 1 := by rw [hq]; rfl
      simp only [List.length_append, List.length_cons, List.length_nil] at hl
      rw [List.append_assoc, hq] at hs ⊢
      rw [List.pairwise_append] at hs
      refine ⟨D ++ [x], by simp, ?_, Or.inr ⟨D, x, rfl, rfl, by simp only [List.tail_cons]; omega⟩⟩
      intro d hd
      simp only [List.mem_append, List.mem_singleton] at hd
      rcases hd with hd | rfl
      · exact hs.2.2 d hd x (by simp)
      · exact Int.le_refl _
  · rename_i hlt
    simp only [List.length_append, List.length_cons, List.length_nil] at hlt
    refine ⟨D, by simp, hD, ?_⟩
    rcases hc with hc | ⟨_, _, _, _, h4⟩
    · exact Or.inl hc
    · omega
theorem HInv.puts {R : Nat} (ms : List Mk) : ∀ (E L : List Mk) (since : Int), HInv R E L since → L.length ≤ R → (E ++ ms).Pairwise (fun a b => a.1 ≤ b.1) →
    HInv R (E ++ ms) (ms.foldl (putM R) (L, since)).1 (ms.foldl (putM R) (L, since)).2 := by
  induction ms with
  | nil => intro E L since h _ _; simpa using h
  | cons m ms ih =>
    intro E L since h hR hs
    have hs' : ((E ++ [m]) ++ ms).Pairwise (fun a b => a.1 ≤ b.1) := by simpa using hs
    have h1 := h.put hR (List.pairwise_append.1 hs').1
    have := ih (E ++ [m]) (putM R (L, since) m).1 (putM R (L, since) m).2 h1 (putM_len (st := (L, since)) hR) hs'
    simpa using this
theorem HInv.next {R : Nat} {Ls : List (List ByteArray)} {n : Nat} {L : List Mk} {since : Int} (h : HInv R (evN Ls n) L since) (hR : L.length ≤ R) :
    HInv R (evN Ls (n + 1)) (notM R (L, since) ((n : Int) + 1) (Ls.getD n [])).1 (notM R (L, since) ((n : Int) + 1) (Ls.getD n [])).2 := by
  rw [notM_eq, evN_succ]
  exact HInv.puts _ _ _ _ h hR (evN_sorted_at Ls n _ (evN_sorted Ls n))
theorem HInv.lost {R : Nat} {Ls : List (List ByteArray)} {n a : Nat} {L : List Mk} {since : Int} (h : HInv R (evN Ls n) L since) (ha : (a : Int) < since) (hn : a ≤ n) :
    (evN Ls a).length + R + 1 ≤ (evN Ls n).length := by
  obtain ⟨D, hE, hD, hc⟩ := h
  rcases hc with ⟨_, h0⟩ | ⟨D', x, rfl, hx, hl⟩
  · omega
  · obtain ⟨r, hr⟩ := evN_prefix Ls a (n - a)
    rw [show a + (n - a) = n by omega] at hr
    have hlen : (evN Ls n).length = D'.length + 1 + L.length := by rw [hE]; simp; omega
    by_cases hq : (evN Ls a).length ≤ D'.length
    · omega
    · exfalso
      have h1 : (evN Ls n)[D'.length]? = some x := by rw [hE]; simp
      rw [hr, List.getElem?_append_left (by omega)] at h1
      have h2 := evN_mem (List.mem_of_getElem? h1)
      omega
theorem HInv.find {R : Nat} {E L : List Mk} {since after : Int} (h : HInv R E L since) (ha : since ≤ after) (key : ByteArray) : E.find? (fM key after) = L.find? (fM key after) := by
  obtain ⟨D, rfl, hD, _⟩ := h
  rw [List.find?_append]
  have : D.find? (fM key after) = none := by
    rw [List.find?_eq_none]
    intro d hd
    have := hD d hd
    have e : ¬ (after < d.1) := by omega
    simp [fM, e]
  rw [this]; rfl
theorem fstV_snoc {E : List Mk} (hE : ∀ m ∈ E, 1 ≤ m.1) (key : ByteArray) (after : Int) (m : Mk) :
    fstV (E ++ [m]) key after = if fstV E key after = 0 ∧ fM key after m = true then m.1 else fstV E key after := by
  unfold fstV
  rw [List.find?_append]
  cases hf : E.find? (fM key after) with
  | some x =>
    have := hE x (List.mem_of_find?_eq_some hf)
    have e : ¬ (x.1 = 0) := by omega
    simp [e]
  | none =>
    cases hm : fM key after m with
    | true => simp [hm]
    | false => simp [hm]
theorem fstV_pos {E : List Mk} (hE : ∀ m ∈ E, 1 ≤ m.1) (key : ByteArray) (after : Int) : fstB E key after = decide (0 < fstV E key after) ∧ 0 ≤ fstV E key after := by
  unfold fstV fstB
  cases hf : E.find? (fM key after) with
  | some x =>
    have := hE x (List.mem_of_find?_eq_some hf)
    have e : 0 < x.1 := by omega
    simp [e]; omega
  | none => simp
theorem fstV_hi {E : List Mk} {n : Nat} (hE : ∀ m ∈ E, m.1 ≤ n) (key : ByteArray) (after : Int) : fstV E key after ≤ n := by
  unfold fstV
  cases hf : E.find? (fM key after) with
  | some x => exact hE x (List.mem_of_find?_eq_some hf)
  | none => simp
abbrev LsIs (w : World) (base : Nat) (v : Value) (Ls : List (List ByteArray)) : Prop := SlIs w base 1 (fun (ks : List ByteArray) cs => ∃ u, cs = [u] ∧ SlIs w base 1 StrR u ks) v Ls
theorem list_at {w wr : World} {base c : Nat} {p : Option Addr} {Ls : List (List ByteArray)} (hs : LsIs w base (.slice p Ls.length c) Ls) (hb : Below w.heap.size w wr) (k : Nat) (hlt : k < Ls.length) :
    ∃ bs os pv cv, p = some ⟨bs, os, none⟩ ∧ wr.cell? ⟨bs, os + k, none⟩ = some (.slice pv (Ls.getD k []).length cv) ∧ SlIs w base 1 StrR (.slice pv (Ls.getD k []).length cv) (Ls.getD k []) := by
  obtain ⟨bs, os, c', cs, hv, _, _, hcl, ⟨v, hcs, hk⟩, hbs, hat⟩ := hs.at hb k hlt
  simp only [Value.slice.injEq] at hv
  obtain ⟨rfl, _, rfl⟩ := hv
  subst hcs
  rw [show Ls[k] = Ls.getD k [] by simp [List.getD, hlt]] at hk
  obtain ⟨pv, cv, rfl, _, _⟩ := hk.form
  exact ⟨bs, os, pv, cv, rfl, by simpa using hat 0 (by omega), hk⟩
def FwInv (w : World) (Ls : List (List ByteArray)) (a : Nat) (u t : Value) (wr : World) : Prop :=
  ∃ k n : Nat, t = .int .i64 k ∧ u = .int .i64 n ∧ a ≤ k ∧ k ≤ Ls.length ∧ (evN Ls k).length = (evN Ls a).length + n ∧ n ≤ 2000000 ∧ Below w.heap.size w wr
set_option maxRecDepth 100000 in
set_option maxHeartbeats 2000000 in
theorem few_law (w wr : World) (base : Nat) (v : Value) (Ls : List (List ByteArray)) (hs : LsIs w base v Ls) (hb0 : Below w.heap.size w wr) (hl : Ls.length ≤ 1048576) (hks : ∀ k, (Ls.getD k []).length ≤ 1048576) (a : Nat) (ha : a ≤ Ls.length) :
    Calls Try.prog 35 #[v, .int .i64 a] wr fun e w' => (∃ n : Nat, e = .returned (.int .i64 n) ∧ ((evN Ls Ls.length).length = (evN Ls a).length + n ∨ 100000 ≤ n)) ∧ Below wr.heap.size wr w' := by
  obtain ⟨p, c, rfl, hlc, hcm⟩ := hs.form
  unfold maxLen at hcm
  have HS := Lib.hid hs
  have HK := Lib.hid hks
  clear hs hks
  go_enter Try.func35, Try.ntmps35
  go_wp2
  go_loopw [5, 6] (fun u t w1 => FwInv wr Ls a u t w1) (fun _ t _ => Ls.length + 1 - (intOf t).toNat)
  case atStart => exact ⟨a, 0, rfl, rfl, Nat.le_refl _, ha, by omega, by omega, Below.refl _ _⟩
  case round =>
    rename_i w1
    obtain ⟨k, n, rfl, rfl, hak, hk, hn, hn2, hbel⟩ := hrel
    by_cases hlt : k < Ls.length
    · by_cases hn3 : n < 100000
      · obtain ⟨bs, os, pv, cv, rfl, q0, _⟩ := list_at HS.out (below_call hb0 hbel) k hlt
        have hm := HK.out k
        have e := Lib.hid (show (evN Ls (k + 1)).length = (evN Ls k).length + (Ls.getD k []).length by rw [evN_succ]; simp)
        have HN := Lib.hid hn; clear hn
        generalize (Ls.getD k []).length = z at *
        have hn4 : (n : Int) < 100000 := by omega
        have HN3 := Lib.hid hn3; have HN2 := Lib.hid hn2
        clear hn3 hn2
        go_wp2
        go_roundw
        case rel => exact ⟨k + 1, n + z, by go_num, by go_num, by omega, by omega, by rw [e.out, HN.out]; omega, by have := HN3.out; omega, hbel⟩
        case measure => simp [intOf]; omega
      · have HN := Lib.hid hn; clear hn
        obtain ⟨I, hI⟩ : ∃ I : Int, I = (n : Int) := ⟨_, rfl⟩
        rw [← hI]
        have hn4 : ¬ (I < 100000) := by omega
        have hn5 : 100000 ≤ I := by omega
        have HI := Lib.hid hI
        have HN3 := Lib.hid hn3; have HN2 := Lib.hid hn2
        clear hn3 hn2 hI
        go_wp2
        go_ret
        exact ⟨⟨n, by rw [← HI.out]; rfl, Or.inr (Nat.not_lt.1 HN3.out)⟩, hbel⟩
    · obtain rfl : k = Ls.length := by omega
      have HN := Lib.hid hn; clear hn
      go_wp2
      go_ret
      exact ⟨⟨n, rfl, Or.inl HN.out⟩, hbel⟩

end Go.Proofs.Ytgacbfbjikjanaa
