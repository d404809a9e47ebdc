/- Spans as cells. -/
import Derived.Test.YtnofclmnjhkhiaaCg
import Derived.Lib.Overlaps
import Derived.Lib.AppendZerosOnto
import Derived.WalkKit
import Derived.WalkLawsBesides
import Derived.WalkSpells
import Derived.Below
import Derived.Deep.RegionHeld3
import Derived.Deep.QuietTactic
import Derived.BigQuiet
import Derived.Deep.DeepCutAuto
import Derived.Deep.DeepMust
import Derived.KernelRfl
import Derived.Lib.Hide
import Derived.Outline
import Derived.RegionTactic
import Derived.StillTailTactics
namespace Go.Proofs.Ytnofclmnjhkhiaa
open Go.RowKit Go.Cl Go.Cv
set_option maxRecDepth 100000
set_option linter.unusedVariables false
set_option linter.unusedSimpArgs false

def encS (s : Sp) : List Value := [.int .i64 s.1, .int .i64 s.2]
theorem encS_ok : Enc Sp encS 2 := ⟨fun _ => rfl, fun x u hu => by simp only [encS, List.mem_cons, List.not_mem_nil, or_false] at hu; rcases hu with rfl | rfl <;> rfl⟩
theorem Try.info30 : (Try.prog.info? 30).map (fun i => (i.zero, i.size, i.bytes)) = some (some (.agg #[.int .i64 0, .int .i64 0]), 2, 16) := by kernel_rfl
theorem info_parts {x : Option TypeInfo} {z : Value} {s b : Nat} (h : x.map (fun i => (i.zero, i.size, i.bytes)) = some (some z, s, b)) : ∃ i, x = some i ∧ i.zero = some z ∧ i.size = s ∧ i.bytes = b := by
  cases x with
  | none => simp at h
  | some i => simp only [Option.map_some, Option.some.injEq, Prod.mk.injEq] at h; exact ⟨i, rfl, h.1, h.2.1, h.2.2⟩
theorem hp_shape {w : World} {g : Nat} {cs : Array Value} {t : TypeId} {fr : Nat × Nat} (h : hp w g = some (.cells cs t fr)) : w.shape? g = some (t, cs.size) := by
  unfold hp at h; simp [World.shape?, h]
theorem one_src {w : World} {b : Nat} {s : Sp} (h : hp w b = some (.cells #[.int .i64 s.1, .int .i64 s.2] 30 (0, 0))) : ∀ j u, (encS s)[j]? = some u → w.cell? ((⟨b, 0, none⟩ : Addr).add j) = some u := by
  intro j u hj
  rw [Addr.add_lit, hp_cell h]
  match j, hj with
  | 0, hj => simpa [encS] using hj
  | 1, hj => simpa [encS] using hj
  | j + 2, hj => simp [encS] at hj
/-- What Insert leaves, where there is room. -/
theorem ins_taken (L : List Sp) (s : Sp) (k : Nat) (hk : k ≤ L.length) (cur : List Value) (hcur : cur.take (L.length * 2) = L.flatMap encS) (hlen : (L.length + 1) * 2 ≤ cur.length) :
    (lay (lay cur ((k + 1) * 2) ((L.drop k).flatMap encS)) (k * 2) (encS s)).take ((L.length + 1) * 2) = (L.take k ++ s :: L.drop k).flatMap encS := by
  have e1 : cur.take (k * 2) = (L.take k).flatMap encS := by
    rw [← encS_ok.take, ← hcur, List.take_take, Nat.min_eq_left (by omega)]
  have hl : ((L.drop k).flatMap encS).length = (L.length - k) * 2 := by rw [encS_ok.length, List.length_drop]
  have hl1 : ((L.take k).flatMap encS).length = k * 2 := by rw [encS_ok.length, List.length_take]; omega
  have hle : (encS s).length = 2 := rfl
  rw [List.flatMap_append, List.flatMap_cons, ← e1]
  generalize (L.drop k).flatMap encS = D at *
  have hc1 : (cur.take (k * 2)).length = k * 2 := by rw [List.length_take]; omega
  have hc2 : (cur.take (k * 2 + 2)).length = k * 2 + 2 := by rw [List.length_take]; omega
  have a1 : (lay cur ((k + 1) * 2) D).take (k * 2) = cur.take (k * 2) := by
    unfold lay
    rw [show (k + 1) * 2 = k * 2 + 2 by omega, List.append_assoc, List.take_append_of_le_length (by omega), List.take_take, Nat.min_eq_left (by omega)]
  have a2 : (lay cur ((k + 1) * 2) D).drop (k * 2 + 2) = D ++ cur.drop (k * 2 + 2 + D.length) := by
    unfold lay
    rw [show (k + 1) * 2 = k * 2 + 2 by omega, List.append_assoc, List.drop_left' hc2]
  have a3 : lay (lay cur ((k + 1) * 2) D) (k * 2) (encS s) = (cur.take (k * 2) ++ (encS s ++ D)) ++ cur.drop (k * 2 + 2 + D.length) := by
    rw [show lay (lay cur ((k + 1) * 2) D) (k * 2) (encS s) = (lay cur ((k + 1) * 2) D).take (k * 2) ++ encS s ++ (lay cur ((k + 1) * 2) D).drop (k * 2 + 2) from rfl, a1, a2]
    simp only [List.append_assoc]
  rw [a3, List.take_left' (by simp only [List.length_append]; omega)]
end Go.Proofs.Ytnofclmnjhkhiaa
