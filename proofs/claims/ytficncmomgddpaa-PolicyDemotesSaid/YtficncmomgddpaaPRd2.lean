/- A slice of entries, as the arguments read. -/
import Derived.Test.YtficncmomgddpaaPRd
import Derived.Test.YtficncmomgddpaaPg
namespace Go.Proofs.Ytficncmomgddpaa
open Go.RowKit Go.Cl Go.Rdr
def enOf (x : (ByteArray × (Bool × ByteArray) × Int × Int) × Bool × Int × Int) : En := En.mk x.1.1 x.1.2.1.1 x.1.2.1.2 x.1.2.2.1 x.1.2.2.2 x.2.1 x.2.2.1 x.2.2.2
def enL (l : List ((ByteArray × (Bool × ByteArray) × Int × Int) × Bool × Int × Int)) (i : Nat) : En := (l[i]?.map enOf).getD ⟨⟨#[]⟩, false, ⟨#[]⟩, 0, 0, false, 0, 0⟩
theorem slIs_ents {w : World} {base : Nat} {v : Value} {l : List ((ByteArray × (Bool × ByteArray) × Int × Int) × Bool × Int × Int)} (hs : SlIs w base 8 EnR v l) : Ents w v l.length (enL l) := by
  obtain ⟨p, c, rfl, _, _, hx⟩ := hs
  refine ⟨p, c, rfl, fun i hi => ?_⟩
  obtain ⟨b, o, cs, hp, _, hb, hl, hr, hc⟩ := hx i hi
  refine ⟨b, o, hp, hb, fun j hj => ?_⟩
  have h1 : cs = (enOf l[i]).cs.toList := hr
  have h2 : enL l i = enOf l[i] := by simp [enL, hi]
  rw [hc j hj, h1, h2]
  simp
end Go.Proofs.Ytficncmomgddpaa
