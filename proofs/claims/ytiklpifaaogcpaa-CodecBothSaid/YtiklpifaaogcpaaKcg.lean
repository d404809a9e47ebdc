/- fixed: answers that the document fixes. -/
import Derived.Test.YtiklpifaaogcpaaKsh
import Derived.Test.YtiklpifaaogcpaaKde
import Derived.WalkKit
import Derived.WalkLawsBesides
import Derived.WalkSpells
import Derived.Below
import Derived.Deep.RegionHeld3
import Derived.Deep.QuietTactic
import Derived.BigQuiet
import Derived.Deep.DeepCutAuto
import Derived.Deep.DeepMust
import Derived.KernelRfl
import Derived.Lib.Hide
import Derived.Outline
import Derived.RegionTactic
import Derived.StillTailTactics
import Derived.Laws.IdiomStrings
import Derived.Handy
namespace Go.Proofs.Ytiklpifaaogcpaa
open Go.RowKit Go.Cl Go.Wr Go.Kc
set_option maxRecDepth 100000
set_option linter.unusedVariables false
set_option linter.unusedSimpArgs false

def mA : Mg := ⟨3, 0, 0, 0, 0, 1, ⟨#[97]⟩, 0, 2, false, emp, false, 0, 0, [], []⟩
def mB : Mg := ⟨10, 2, 3, 0, 0, 0, emp, 0, 0, false, emp, false, 0, 0, [], []⟩
theorem okA : chkM mA = 0 := by
  unfold chkM
  rw [if_pos (by decide), if_pos]
  refine ⟨⟨.inl rfl, .inl rfl, .inl rfl, .inl rfl, .inr (by decide), .inr (.inl rfl), .inl rfl, .inr (.inl rfl), .inl rfl, .inl rfl, .inl rfl, .inl rfl, .inl rfl, .inl rfl, .inl rfl⟩, ⟨by decide, by decide, by decide, by decide, by decide, by decide, by decide, by decide⟩, ⟨fun h => by simp [mA] at h, fun h => by simp [mA] at h, fun h => ?_, fun h => by simp [mA] at h, fun h => by simp [fullM, mA] at h⟩⟩
  constructor
  · unfold goodK; decide
  · unfold goodP; decide
theorem okB : chkM mB = 0 := by
  unfold chkM
  rw [if_pos (by decide), if_pos]
  exact ⟨⟨.inr (.inr (by decide)), .inr (by decide), .inl rfl, .inl rfl, .inl rfl, .inl rfl, .inl rfl, .inl rfl, .inl rfl, .inl rfl, .inl rfl, .inl rfl, .inl rfl, .inl rfl, .inl rfl⟩, ⟨by decide, by decide, by decide, by decide, by decide, by decide, by decide, by decide⟩, ⟨fun h => by simp [mB] at h, fun h => by simp [mB] at h, fun h => by simp [mB] at h, fun h => by simp [mB] at h, fun h => by simp [fullM, mB] at h⟩⟩
theorem encA : encM mA = [6, 0, 0, 2, 2, 97, 0, 4] := by
  unfold encM
  rw [show encF mA = encN 0 ++ encN 0 ++ encN 1 ++ encT' ⟨#[97]⟩ ++ encP 0 2 from rfl]
  rw [show mA.kind = 3 from rfl]
  unfold encN encT' encP txt
  rw [show zz 3 = 6 from rfl, show zz 0 = 0 from rfl, show zz 1 = 2 from rfl, show zz 2 = 4 from rfl]
  rw [num_lo (by decide), num_lo (by decide), num_lo (by decide), num_lo (by decide)]
  first | decide | (rw [num_lo (by decide)]; decide)
theorem decB : decode [20, 4, 6] = .ok mB := by
  have h1 : (inO [20, 4, 6]).num 0 0 = (.ok 10, 1) := by rfl
  have h2 : fieldsT (inO [20, 4, 6]) { Mg.zero with kind := 10 } 1 = (.ok mB, 3) := by rfl
  unfold decode
  rw [h1]
  dsimp only
  rw [if_pos (by decide), h2]
  dsimp only
  rw [if_neg (by decide), okB, if_neg (by decide)]
theorem lsW0 (w : World) : LsW w none 0 [] := ⟨⟨Nat.le_refl _, Nat.zero_le _⟩, fun i x h => by simp at h⟩
theorem lsS0 (w : World) : LsS w none 0 [] := ⟨⟨Nat.le_refl _, Nat.zero_le _⟩, fun i x h => by simp at h⟩
def EncA (w : World) : Ending → World → Prop := fun e w' => e = .returned (.tuple #[.string ⟨#[6, 0, 0, 2, 2, 97, 0, 4]⟩, .int .i64 0]) ∧ Below w.heap.size w w'
theorem c_encA (w : World) : Calls Try.prog 10 #[.agg #[.int .i64 3, .int .i64 0, .int .i64 0, .int .i64 0, .int .i64 0, .int .i64 1, .string ⟨#[97]⟩, .int .i64 0, .int .i64 2, .bool false, .string ⟨#[]⟩, .bool false, .int .i64 0, .int .i64 0, .slice none 0 0, .slice none 0 0]] w (EncA w) := by
  have hIn : mA.In := ⟨⟨by decide, by decide⟩, ⟨by decide, by decide⟩, ⟨by decide, by decide⟩, ⟨by decide, by decide⟩, ⟨by decide, by decide⟩, ⟨by decide, by decide⟩, ⟨by decide, by decide⟩, ⟨by decide, by decide⟩, ⟨by decide, by decide⟩, ⟨by decide, by decide⟩⟩
  refine (c_encode mA hIn none 0 none 0 w (lsW0 w) (Nat.zero_le _) (lsS0 w) (Nat.zero_le _)).mono ?_
  rintro e w' ⟨h, -, hb⟩
  have := h okA
  rw [encA] at this
  exact ⟨this, hb⟩
def DecB (w : World) : Ending → World → Prop := fun e w' => ∃ wp xc kp yc, e = .returned (.tuple #[.agg #[.int .i64 10, .int .i64 2, .int .i64 3, .int .i64 0, .int .i64 0, .int .i64 0, .string ⟨#[]⟩, .int .i64 0, .int .i64 0, .bool false, .string ⟨#[]⟩, .bool false, .int .i64 0, .int .i64 0, .slice wp 0 xc, .slice kp 0 yc], .int .i64 0]) ∧ Below w.heap.size w w'
theorem c_decB (w : World) : Calls Try.prog 14 #[.string ⟨#[20, 4, 6]⟩] w (DecB w) := by
  refine (c_decode ⟨#[20, 4, 6]⟩ (by decide) w).mono ?_
  rintro e w' ⟨hb, h⟩
  rw [show (ByteArray.mk #[20, 4, 6]).data.toList = [20, 4, 6] from rfl, decB] at h
  rcases h with ⟨er, h, _⟩ | ⟨m, c, wp, wc, kp, kc, h, rfl, _⟩
  · injection h
  · injection h with h
    subst h
    exact ⟨wp, wc, kp, kc, rfl, hb⟩
theorem c_fixed (w : World) : Calls Try.prog 9 #[] w fun e w' => e = .returned (.bool true) ∧ Below w.heap.size w w' := by
  go_enter Try.func9, Try.ntmps9
  go_wp2_with fail
  refine (c_encA w).mono ?_
  rintro e w1 ⟨rfl, hb1⟩
  go_wp2_with fail
  refine (c_decB w1).mono ?_
  rintro e w2 ⟨wp, xc, kp, yc, rfl, hb2⟩
  dsimp only
  iterate 10 go_step
  refine al_op rfl rfl ?_
  simp only [Act.put, List.setIfInBounds_toArray, List.set_cons_zero, List.set_cons_succ]
  refine st_op rfl (.tmp 3) (.tmp 13) rfl w2.heap.size _ rfl rfl Z30 (hp_alloc_new _ _) rfl rfl (by simp [Value.oneCell']) ?_
  simp only [Act.put, List.setIfInBounds_toArray, List.set_cons_zero, List.set_cons_succ]
  have k3 := hp_row (cs' := #[.int .i64 10, .int .i64 2, .int .i64 3, .int .i64 0, .int .i64 0, .int .i64 0, .string ⟨#[]⟩, .int .i64 0, .int .i64 0, .bool false, .string ⟨#[]⟩, .bool false, .int .i64 0, .int .i64 0, .slice wp 0 xc, .slice kp 0 yc]) (hp_alloc_new w2 (.cells Z30 30))
  have hb3 : Below w.heap.size w ((w2.alloc (.cells Z30 30)).setRow w2.heap.size #[.int .i64 10, .int .i64 2, .int .i64 3, .int .i64 0, .int .i64 0, .int .i64 0, .string ⟨#[]⟩, .int .i64 0, .int .i64 0, .bool false, .string ⟨#[]⟩, .bool false, .int .i64 0, .int .i64 0, .slice wp 0 xc, .slice kp 0 yc]) := below_call (below_call hb1 hb2) (below_row (by (repeat (first | (with_reducible exact Below.refl _ _) | (with_reducible refine below_drew ?_) | (with_reducible refine below_alloc ?_ _)))) (Nat.le_refl _) _)
  generalize (w2.alloc (.cells Z30 30)).setRow w2.heap.size #[.int .i64 10, .int .i64 2, .int .i64 3, .int .i64 0, .int .i64 0, .int .i64 0, .string ⟨#[]⟩, .int .i64 0, .int .i64 0, .bool false, .string ⟨#[]⟩, .bool false, .int .i64 0, .int .i64 0, .slice wp 0 xc, .slice kp 0 yc] = w3 at *
  generalize w2.heap.size = b3 at *
  have c3 := hp_cell k3
  clear k3
  have HB := Lib.hid hb3
  clear hb1 hb2 hb3
  go_wp2
  go_ret
  exact ⟨rfl, HB.out⟩



theorem ld_wp {o : Oper} {a : Act} {w : World} {K : Act → World → Prop} {Q : Exit → Act → World → Prop} (x : Operand) (ho : o.op = .load 30 x) (g : Nat) (hx : a.eval x = .pointer (some ⟨g, 0, none⟩)) (cs : Array Value) {t : TypeId} {fr : Nat × Nat} (h : hp w g = some (.cells cs t fr)) (hs : cs.size = 16)
    (hr : K (a.put o.dst (.agg cs)) w) : o.wp Try.prog a w K Q := by
  refine wp_load_mid 30 x ho g 0 hx cs.toList _ (fun j v hv => ?_) Try.underlying30 rfl (by rw [info30]; simp [hs]) (by simpa using hr)
  rw [Nat.zero_add, hp_cell h]; simpa using hv
theorem ld_opg {ops : Array Oper} {rest : List Oper} {o : Oper} {a : Act} {w : World} {Q : Exit → Act → World → Prop} (hw : Region.wanted o (yielded ops a.tmps) = true) (x : Operand) (ho : o.op = .load 30 x) (g : Nat) (hx : a.eval x = .pointer (some ⟨g, 0, none⟩)) (cs : Array Value) {t : TypeId} {fr : Nat × Nat} (h : hp w g = some (.cells cs t fr)) (hs : cs.size = 16)
    (hr : wpList Try.prog ops Q rest (a.put o.dst (.agg cs)) w) : wpList Try.prog ops Q (o :: rest) a w := by
  refine wpList_step fun K hK => ?_
  rw [if_pos hw]
  exact ld_wp x ho g hx cs h hs (hK _ _ hr)

end Go.Proofs.Ytiklpifaaogcpaa
