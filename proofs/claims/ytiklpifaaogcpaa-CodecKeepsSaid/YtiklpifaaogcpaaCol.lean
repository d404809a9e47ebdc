/- Colours of blocks: who owns which; what a step of one owner leaves as it was. Laws on memory alone; no program in sight. -/
import Derived.Below
import Derived.Laws.AppendOwn
import Derived.Tactics
import Derived.Deep.Quiet
namespace Go.Cl
open Go Go.RowKit

theorem below_drewN {B : Nat} {w W : World} (h : Below B w W) (n : Nat) : Below B w (W.drewN n) := ⟨h.os, h.tape, h.output, h.size, h.block⟩
theorem below_drew {B : Nat} {w W : World} (h : Below B w W) : Below B w W.drew := ⟨h.os, h.tape, h.output, h.size, h.block⟩
theorem below_alloc {w W : World} (h : Below w.heap.size w W) (o : Obj) : Below w.heap.size w (W.alloc o) := h.alloc h.size o
theorem below_set {w W : World} (h : Below w.heap.size w W) {p : Addr} (hp : w.heap.size ≤ p.block) (u : Value) : Below w.heap.size w (W.setCell p u) := h.setCell hp u
theorem below_call {w W w1 : World} (h : Below w.heap.size w W) (hb : Below W.heap.size W w1) : Below w.heap.size w w1 := h.trans (hb.mono h.size)
/-- Behind a step of owner i: what is new is i's. -/
def paint (col : Nat → Nat) (w : World) (i : Nat) : Nat → Nat := fun k => if k < w.heap.size then col k else i
theorem paint_old {col : Nat → Nat} {w : World} {i k : Nat} (h : k < w.heap.size) : paint col w i k = col k := if_pos h
theorem paint_new {col : Nat → Nat} {w : World} {i k : Nat} (h : w.heap.size ≤ k) : paint col w i k = i := if_neg (by omega)
theorem paint_of {col : Nat → Nat} {w : World} {i k : Nat} (h : col k = i) : paint col w i k = i := by unfold paint; split <;> simp [h]
theorem paint_paint {col : Nat → Nat} {w w1 : World} {i : Nat} (h : w.heap.size ≤ w1.heap.size) : paint (paint col w i) w1 i = paint col w i := by
  funext k; unfold paint; split
  · rfl
  · rw [if_neg (by omega)]

/-- Of what was there, only blocks of owner i have turned. -/
structure Ch (col : Nat → Nat) (i : Nat) (w w' : World) : Prop where
  os : w'.os = w.os
  tape : w'.tape = w.tape
  output : w'.output = w.output
  size : w.heap.size ≤ w'.heap.size
  block : ∀ k, k < w.heap.size → col k ≠ i → w'.heap[k]? = w.heap[k]?

theorem heap_set (w : World) (p : Addr) (u : Value) {k : Nat} (h : k ≠ p.block) : (w.setCell p u).heap[k]? = w.heap[k]? := by
  simp only [World.setCell]
  rw [Array.getElem?_modify, if_neg (fun e => h e.symm)]

section
variable {col : Nat → Nat} {i : Nat} {w w1 w2 : World}
theorem Ch.refl : Ch col i w w := ⟨rfl, rfl, rfl, Nat.le_refl _, fun _ _ _ => rfl⟩
theorem Ch.alloc (h : Ch col i w w1) (o : Obj) : Ch col i w (w1.alloc o) :=
  ⟨h.os, h.tape, h.output, by have := h.size; simp; omega, fun k hk hc => by rw [heap_alloc_old w1 o k (by have := h.size; omega)]; exact h.block k hk hc⟩
theorem Ch.drew (h : Ch col i w w1) : Ch col i w w1.drew := ⟨h.os, h.tape, h.output, h.size, h.block⟩
theorem Ch.drewN (h : Ch col i w w1) (n : Nat) : Ch col i w (w1.drewN n) := ⟨h.os, h.tape, h.output, h.size, h.block⟩
theorem Ch.setCell (h : Ch col i w w1) {p : Addr} (hp : paint col w i p.block = i) (u : Value) : Ch col i w (w1.setCell p u) :=
  ⟨h.os, h.tape, h.output, by have := h.size; simpa [World.setCell] using this, fun k hk hc => by
    rw [heap_set w1 p u (fun e => hc (by rw [← paint_old hk (col := col) (i := i), e]; exact hp))]; exact h.block k hk hc⟩
theorem Ch.below (h : Ch col i w w1) (hb : Below w1.heap.size w1 w2) : Ch col i w w2 :=
  ⟨hb.os.trans h.os, hb.tape.trans h.tape, hb.output.trans h.output, Nat.le_trans h.size hb.size, fun k hk hc => (hb.block k (by have := h.size; omega)).trans (h.block k hk hc)⟩
theorem Ch.grown (h : Ch col i w w1) {row : Option Nat} (hg : w1.grownBy w2 row) (hr : ∀ k, row = some k → paint col w i k = i) : Ch col i w w2 :=
  ⟨hg.os.trans h.os, hg.tape.trans h.tape, hg.output.trans h.output, Nat.le_trans h.size hg.size, fun k hk hc => by
    refine (hg.block k (by have := h.size; omega) (fun e => hc ?_)).trans (h.block k hk hc)
    have := hr k e.symm; rwa [paint_old hk] at this⟩
theorem Ch.trans (h : Ch col i w w1) (h2 : Ch (paint col w i) i w1 w2) : Ch col i w w2 :=
  ⟨h2.os.trans h.os, h2.tape.trans h.tape, h2.output.trans h.output, Nat.le_trans h.size h2.size, fun k hk hc =>
    (h2.block k (by have := h.size; omega) (by rw [paint_old hk]; exact hc)).trans (h.block k hk hc)⟩
theorem Ch.of_below (hb : Below w.heap.size w w1) : Ch col i w w1 := Ch.refl.below hb
end

/-- The same, of several owners, with the colours behind it. -/
structure Mv (S : List Nat) (col : Nat → Nat) (w : World) (col' : Nat → Nat) (w' : World) : Prop where
  os : w'.os = w.os
  tape : w'.tape = w.tape
  output : w'.output = w.output
  size : w.heap.size ≤ w'.heap.size
  block : ∀ k, k < w.heap.size → col k ∉ S → w'.heap[k]? = w.heap[k]?
  col : ∀ k, k < w.heap.size → col' k = col k

section
variable {S T : List Nat} {col col' col2 : Nat → Nat} {w w' w2 : World} {i : Nat}
theorem Mv.refl : Mv S col w col w := ⟨rfl, rfl, rfl, Nat.le_refl _, fun _ _ _ => rfl, fun _ _ => rfl⟩
theorem Mv.sub (h : Mv S col w col' w') (hs : ∀ x, x ∈ S → x ∈ T) : Mv T col w col' w' :=
  ⟨h.os, h.tape, h.output, h.size, fun k hk hc => h.block k hk (fun e => hc (hs _ e)), h.col⟩
theorem Mv.trans (h : Mv S col w col' w') (h2 : Mv S col' w' col2 w2) : Mv S col w col2 w2 :=
  ⟨h2.os.trans h.os, h2.tape.trans h.tape, h2.output.trans h.output, Nat.le_trans h.size h2.size,
   fun k hk hc => (h2.block k (by have := h.size; omega) (by rw [h.col k hk]; exact hc)).trans (h.block k hk hc),
   fun k hk => (h2.col k (by have := h.size; omega)).trans (h.col k hk)⟩
theorem Ch.mv (h : Ch col i w w') : Mv [i] col w (paint col w i) w' :=
  ⟨h.os, h.tape, h.output, h.size, fun k hk hc => h.block k hk (by simpa using hc), fun k hk => paint_old hk⟩
theorem Ch.mv' (h : Ch col i w w') (hi : i ∈ S) : Mv S col w (paint col w i) w' := h.mv.sub (by simpa using hi)
theorem Mv.of_below (hb : Below w.heap.size w w') : Mv S col w col w' := ⟨hb.os, hb.tape, hb.output, hb.size, fun k hk _ => hb.block k hk, fun _ _ => rfl⟩
/-- All that has turned is new. -/
theorem Mv.toBelow (h : Mv S col w col' w') (h0 : ∀ k, k < w.heap.size → col k ∉ S) : Below w.heap.size w w' :=
  ⟨h.os, h.tape, h.output, h.size, fun k hk => h.block k hk (h0 k hk)⟩
theorem Mv.after_below {w1 : World} (h : Mv S col w col' w') (hb : Below w'.heap.size w' w1) : Mv S col w col' w1 :=
  h.trans (Mv.of_below hb)
end

/-- What lies in block g. -/
def hp (w : World) (g : Nat) : Option Obj := w.heap[g]?
theorem hp_lt {w : World} {g : Nat} {x : Obj} (h : hp w g = some x) : g < w.heap.size := (Array.getElem?_eq_some_iff.1 h).1
theorem hp_cell {w : World} {g : Nat} {t : TypeId} {cs : Array Value} {fr : Nat × Nat} (h : hp w g = some (.cells cs t fr)) (i : Nat) : w.cell? ⟨g, i, none⟩ = cs[i]? := by
  unfold hp at h; simp [World.cell?, h]
theorem hp_free {w : World} {g : Nat} {t : TypeId} {cs : Array Value} (h : hp w g = some (.cells cs t (0, 0))) (i : Nat) : w.frozen? ⟨g, i, none⟩ = false := by
  unfold hp at h; simp [World.frozen?, h]
theorem hp_below {W w1 : World} (hb : Below W.heap.size W w1) {g : Nat} {x : Obj} (h : hp W g = some x) : hp w1 g = some x := by
  unfold hp; rw [hb.block g (hp_lt h)]; exact h
theorem hp_alloc_old {w : World} {g : Nat} {x : Obj} (h : hp w g = some x) (o : Obj) : hp (w.alloc o) g = some x := by
  unfold hp; rw [heap_alloc_old w o g (hp_lt h)]; exact h
theorem hp_alloc_new (w : World) (o : Obj) : hp (w.alloc o) w.heap.size = some o := heap_alloc_new w o
theorem hp_set {w : World} {g i : Nat} {t : TypeId} {cs : Array Value} {fr : Nat × Nat} (h : hp w g = some (.cells cs t fr)) (u : Value) :
    hp (w.setCell ⟨g, i, none⟩ u) g = some (.cells (cs.setIfInBounds i u) t fr) := by
  unfold hp at h ⊢
  simp only [World.setCell, Array.getElem?_modify, if_true, h, Option.map_some]
  rfl
theorem hp_set_ne {w : World} {g : Nat} {x : Obj} (h : hp w g = some x) {p : Addr} (hne : g ≠ p.block) (u : Value) : hp (w.setCell p u) g = some x := by
  unfold hp; rw [heap_set w p u hne]; exact h
theorem hp_grown {w w' : World} {g : Nat} {x : Obj} (h : hp w g = some x) {row : Option Nat} (hg : w.grownBy w' row) (hne : some g ≠ row) : hp w' g = some x := by
  unfold hp; rw [hg.block g (hp_lt h) hne]; exact h
theorem hp_mv {S : List Nat} {col col' : Nat → Nat} {w w' : World} {g : Nat} {x : Obj} (h : hp w g = some x) (hm : Mv S col w col' w') (hc : col g ∉ S) : hp w' g = some x := by
  unfold hp; rw [hm.block g (hp_lt h) hc]; exact h
theorem hp_ne {w : World} {g g' : Nat} {t t' : TypeId} {cs cs' : Array Value} {fr fr' : Nat × Nat} (h : hp w g = some (.cells cs t fr)) (h' : hp w g' = some (.cells cs' t' fr')) (ht : t ≠ t') : g ≠ g' := by
  rintro rfl; rw [h] at h'; injection h' with e; injection e with _ e2 _; exact ht e2

/-- A block of one owner, with its cells. -/
structure Blk (col : Nat → Nat) (i : Nat) (w : World) (b : Nat) (cs : Array Value) (t : TypeId) : Prop where
  hp : hp w b = some (.cells cs t (0, 0))
  col : col b = i

/-- A slice's value v, n elements, whose cells xs lie at the head of a block of owner i (or nil). -/
structure Row (col : Nat → Nat) (i : Nat) (w : World) (e : TypeId) (size : Nat) (v : Value) (n : Nat) (xs : List Value) : Prop where
  own : w.ownsRow 0 e size v n xs
  col : ∀ g, v.ownBlock = some g → col g = i

section
variable {col col' : Nat → Nat} {i : Nat} {w w' : World} {b : Nat} {cs : Array Value} {t e : TypeId} {size n : Nat} {v : Value} {xs : List Value}
theorem Blk.kept (h : Blk col i w b cs t) {S : List Nat} (hm : Mv S col w col' w') (hi : i ∉ S) : Blk col' i w' b cs t :=
  ⟨hp_mv h.hp hm (by rw [h.col]; exact hi), (hm.col b (hp_lt h.hp)).trans h.col⟩
theorem Row.lt (h : Row col i w e size v n xs) {g : Nat} (hg : v.ownBlock = some g) : g < w.heap.size := (h.own.lt g hg).2
theorem Row.kept (h : Row col i w e size v n xs) {S : List Nat} (hm : Mv S col w col' w') (hi : i ∉ S) : Row col' i w' e size v n xs := by
  refine ⟨⟨h.own.1, ?_⟩, fun g hg => (hm.col g (h.lt hg)).trans (h.col g hg)⟩
  rcases h.own.2 with hn | ⟨g, cap, cur, rfl, hb, hgg, rest⟩
  · exact .inl hn
  · refine .inr ⟨g, cap, cur, rfl, hb, ?_, rest⟩
    rw [hm.block g (Array.getElem?_eq_some_iff.1 hgg).1 (by rw [h.col g rfl]; exact hi)]
    exact hgg
/-- A slice's value by its form. -/
theorem Row.form (h : Row col i w e size v n xs) : ∃ p c, v = .slice p n c := by
  rcases h.own.2 with ⟨rfl, rfl⟩ | ⟨g, cap, cur, rfl, _⟩
  · exact ⟨_, _, rfl⟩
  · exact ⟨_, _, rfl⟩
theorem Row.pos (h : Row col i w e size v n xs) (hn : 0 < n) : ∃ g c cur, v = .slice (some ⟨g, 0, none⟩) n c ∧ hp w g = some (.cells cur e (0, 0)) ∧ n ≤ c ∧ c ≤ maxLen ∧ cur.size = c * size ∧ cur.toList.take (n * size) = xs ∧ col g = i := by
  rcases h.own.2 with ⟨rfl, rfl⟩ | ⟨g, cap, cur, rfl, _, h1, h2, h3, h4, h5⟩
  · omega
  · exact ⟨g, cap, cur, rfl, h1, h2, h3, h4, h5, h.col g rfl⟩
/-- The cell number j of it. -/
theorem Row.cell (h : Row col i w e size v n xs) {g : Nat} (hg : v.ownBlock = some g) {j : Nat} {u : Value} (hu : xs[j]? = some u) : w.cell? ⟨g, j, none⟩ = some u := by
  have := h.own.cells hg j u hu
  have hadd : (⟨g, 0, none⟩ : Addr).add j = ⟨g, j, none⟩ := by unfold Addr.add; split <;> simp_all
  rwa [hadd] at this
theorem Row.ne (h : Row col i w e size v n xs) (hb : hp w b = some (.cells cs t (0, 0))) (ht : t ≠ e) : v.ownBlock ≠ some b := by
  intro hg
  rcases h.own.2 with ⟨rfl, _⟩ | ⟨g, cap, cur, rfl, _, hgg, _⟩
  · simp [Value.ownBlock] at hg
  · simp [Value.ownBlock] at hg
    subst hg
    exact hp_ne hb hgg ht rfl
end

section
variable {col : Nat → Nat} {i : Nat} {w W : World} {e : TypeId} {size n : Nat} {v : Value} {xs : List Value}
theorem Row.below (h : Row col i w e size v n xs) (hb : Below w.heap.size w W) : Row (paint col w i) i W e size v n xs := by
  refine ⟨⟨h.own.1, ?_⟩, fun g hg => (paint_old (h.lt hg)).trans (h.col g hg)⟩
  rcases h.own.2 with hn | ⟨g, cap, cur, rfl, hg0, hgg, rest⟩
  · exact .inl hn
  · exact .inr ⟨g, cap, cur, rfl, hg0, (hb.block g (Array.getElem?_eq_some_iff.1 hgg).1).trans hgg, rest⟩
theorem Blk.below {b : Nat} {cs : Array Value} {t : TypeId} (h : Blk col i w b cs t) (hb : Below w.heap.size w W) : Blk (paint col w i) i W b cs t :=
  ⟨hp_below hb h.hp, paint_of h.col⟩

/-- append onto a row of one's own: what comes is one's own; it lies where it lay, or is new. -/
theorem run_append_col {P : Program} (w : World) (t ty e : TypeId) (inf : TypeInfo) (z : Value) (size bytes : Nat) (ht : P.underlying t = some (.slice e)) (hi : P.info? e = some inf) (hz : inf.zero = some z)
    (hsize : inf.size = size) (hby : inf.bytes = bytes) (hzs : z.cells.size = size) (hsz : 0 < size)
    (v : Value) (n : Nat) (xs : List Value) (hr : Row col i w e size v n xs)
    (a : Addr) (m c : Nat) (news : List Value) (hl : news.length = m * size) (hnews : ∀ j u, news[j]? = some u → w.cell? (a.add j) = some u) (h1 : ∀ u ∈ news, u.oneCell' = true)
    (h63 : n + m ≤ maxLen) (hbytes : (n + m) * bytes ≤ 140737488355328) :
    ∃ v' w', (Builtin.append_ #[t, t] ty #[v, .slice (some a) m c]).run P w = .ok v' w' ∧ Row (paint col w i) i w' e size v' (n + m) (xs ++ news) ∧ w.grownBy w' v.ownBlock := by
  obtain ⟨v', w', hrun, hown, hg, _⟩ := run_append_own (P := P) w 0 t ty e inf z size bytes ht hi hz hsize hby hzs hsz v n xs hr.own a m c news hl hnews h1 h63 hbytes (Nat.zero_le _)
  refine ⟨v', w', hrun, ⟨hown, ?_⟩, hg⟩
  subst hsize; subst hby
  have hsmall : n + m ≤ 9223372036854775807 := by simp only [maxLen] at h63; omega
  intro g hgb
  rcases hr.own.2 with ⟨rfl, rfl⟩ | ⟨g0, cap, cur, rfl, hbg, hgg, hnc, hcm, hcs, htake⟩
  · by_cases hm : m = 0
    · subst hm
      have hn : news = [] := List.eq_nil_of_length_eq_zero (by simpa using hl)
      subst hn
      have h2 : (Builtin.append_ #[t, t] ty #[.slice none 0 0, .slice (some a) 0 c]).run P w = .ok (.slice none 0 0) w := by
        simp [Builtin.append_, run_underlying ht, sizeOf, typeInfo, hi, Builtin.lenOf, Builtin.firstCells, loadCells, loadCellsFrom]
      rw [h2] at hrun
      injection hrun with e1 e2
      subst e1
      simp [Value.ownBlock] at hgb
    · have h2 := run_append_nil (P := P) w t ty e inf z ht hi hz a m c news hl hnews (by omega) (by omega) (by have hb := hbytes; simp only [Nat.zero_add] at hb; omega)
      rw [h2] at hrun
      injection hrun with e1 e2
      subst e1
      simp [Value.ownBlock] at hgb
      subst hgb
      exact paint_new (Nat.le_refl _)
  · by_cases hroom : n + m ≤ cap
    · have hfit : n * inf.size + news.length ≤ cur.size := by rw [hl, hcs, ← Nat.add_mul]; exact Nat.mul_le_mul_right _ hroom
      have h2 := run_append_room (P := P) w t ty e inf ht hi g0 n cap cur hgg a m c news hl hnews h1 hroom hfit
      rw [h2] at hrun
      injection hrun with e1 e2
      subst e1
      simp [Value.ownBlock] at hgb
      subst hgb
      exact paint_of (hr.col g0 rfl)
    · have holds : ∀ j u, xs[j]? = some u → w.cell? ((⟨g0, 0, none⟩ : Addr).add j) = some u := hr.own.cells (g := g0) rfl
      have h2 := run_append_grow (P := P) w t ty e inf z ht hi hz ⟨g0, 0, none⟩ n cap xs hr.own.1 holds a m c news hl hnews (by omega) (by omega) (growslice_fits (by omega) hbytes)
      rw [h2] at hrun
      injection hrun with e1 e2
      subst e1
      simp [Value.ownBlock] at hgb
      subst hgb
      exact paint_new (Nat.le_refl _)

theorem wpList_append_col {P : Program} {ops : Array Oper} {rest : List Oper} {o : Oper} {a : Act} {Q : Exit → Act → World → Prop} (hgd : o.guard = none) (s x : Operand) (t : TypeId)
    (ho : o.op = .call { callee := .builtin .append, args := #[s, x], argTypes := #[t, t] })
    (e : TypeId) (inf : TypeInfo) (z : Value) (size bytes : Nat) (ht : P.underlying t = some (.slice e)) (hi : P.info? e = some inf) (hz : inf.zero = some z)
    (hsize : inf.size = size) (hby : inf.bytes = bytes) (hzs : z.cells.size = size) (hsz : 0 < size)
    (v : Value) (n : Nat) (xs : List Value) (hs : a.eval s = v) (hr : Row col i w e size v n xs)
    (ad : Addr) (m c : Nat) (news : List Value) (hx : a.eval x = .slice (some ad) m c) (hl : news.length = m * size) (hnews : ∀ j u, news[j]? = some u → w.cell? (ad.add j) = some u) (h1 : ∀ u ∈ news, u.oneCell' = true)
    (h63 : n + m ≤ maxLen) (hbytes : (n + m) * bytes ≤ 140737488355328)
    (h : ∀ p c' w', Row (paint col w i) i w' e size (.slice p (n + m) c') (n + m) (xs ++ news) → Ch col i w w' → w.grownBy w' v.ownBlock → wpList P ops Q rest (a.put o.dst (.slice p (n + m) c')) w') : wpList P ops Q (o :: rest) a w := by
  refine wpList_plain hgd fun K hK => ?_
  obtain ⟨v', w', hrun, h2, h3⟩ := run_append_col (P := P) (col := col) (i := i) w t o.type e inf z size bytes ht hi hz hsize hby hzs hsz v n xs hr ad m c news hl hnews h1 h63 hbytes
  unfold Oper.wp execOp
  simp only [ho, resolve, invoke, builtin, Sem.run_bind, Sem.run_pure, Result.andThen_ok, List.map_toArray, List.map_cons, List.map_nil, hs, hx, hrun]
  obtain ⟨p, c', rfl⟩ := h2.form
  exact hK _ _ (h p c' w' h2 (Ch.refl.grown h3 (fun k hk => paint_of (hr.col k hk))) h3)
end

/-- cs laid over L from place off on. -/
def lay (L : List Value) (off : Nat) (cs : List Value) : List Value := L.take off ++ cs ++ L.drop (off + cs.length)
theorem lay_nil (L : List Value) (off : Nat) : lay L off [] = L := by simp [lay]
theorem length_lay {L : List Value} {off : Nat} {cs : List Value} (h : off + cs.length ≤ L.length) : (lay L off cs).length = L.length := by simp [lay]; omega
theorem grownBy_setRow (w : World) (g : Nat) (cs : Array Value) : w.grownBy (w.setRow g cs) (some g) :=
  ⟨rfl, rfl, rfl, by simp, fun k _ hk => setRow_other w g k _ (fun e => hk (by rw [e]))⟩
theorem grownBy_refl (w : World) (r : Option Nat) : w.grownBy w r := ⟨rfl, rfl, rfl, Nat.le_refl _, fun _ _ _ => rfl⟩
theorem run_loadCells_none {P : Program} (w : World) (x : Addr) : (loadCells x 0).run P w = .ok #[] w := by
  simpa using run_loadCells_list (P := P) w x [] (by simp)

/-- copy: m elements of size cells each. -/
theorem run_copy_col {P : Program} (w : World) (dT sT ty elem : TypeId) (inf : TypeInfo) (size : Nat) (hu : P.underlying dT = some (.slice elem)) (hi : P.info? elem = some inf) (hsize : inf.size = size)
    (dp sp : Option Addr) (dLen dCap sLen sCap g off : Nat) (cur : Array Value) (t : TypeId) (hg : hp w g = some (.cells cur t (0, 0))) (m : Nat) (hm : m = Nat.min sLen dLen) (cs : List Value) (hn : cs.length = m * size)
    (hpos : 0 < m → dp = some ⟨g, off, none⟩ ∧ ∃ ad, sp = some ad ∧ ∀ j v, cs[j]? = some v → w.cell? (ad.add j) = some v) (hfit : off + cs.length ≤ cur.size) (h1 : ∀ v ∈ cs, v.oneCell' = true) :
    ∃ w', (Builtin.copy_ #[dT, sT] ty #[.slice dp dLen dCap, .slice sp sLen sCap]).run P w = .ok (goInt m) w' ∧ hp w' g = some (.cells (lay cur.toList off cs).toArray t (0, 0)) ∧ w.grownBy w' (some g) := by
  subst hsize
  by_cases h0 : m = 0
  · subst h0
    obtain rfl : cs = [] := List.eq_nil_of_length_eq_zero (by simpa using hn)
    refine ⟨w, ?_, by simpa [lay_nil] using hg, grownBy_refl _ _⟩
    cases dp <;> cases sp <;> simp [Builtin.copy_, run_underlying hu, Builtin.lenOf, Builtin.firstCells, sizeOf, typeInfo, hi, ← hm, storeCells, run_loadCells_none]
  · obtain ⟨rfl, ad, rfl, hsrc⟩ := hpos (by omega)
    have hf := run_firstCells_some (P := P) w inf.size m ad sLen sCap cs hn hsrc
    have hst := run_storeCells_at P g off t cs 0 cur w hg (by simpa using hfit) h1
    refine ⟨_, ?_, setRow_heap w g cur (lay cur.toList off cs).toArray t _ hg, grownBy_setRow w g _⟩
    simp [Builtin.copy_, run_underlying hu, Builtin.lenOf, sizeOf, typeInfo, hi, ← hm, hf, hst, lay]

theorem wpList_copy_col {P : Program} {w : World} {ops : Array Oper} {rest : List Oper} {o : Oper} {a : Act} {Q : Exit → Act → World → Prop} (hgd : o.guard = none) (d s : Operand) (dT sT : TypeId)
    (ho : o.op = .call { callee := .builtin .copy, args := #[d, s], argTypes := #[dT, sT] }) (elem : TypeId) (inf : TypeInfo) (size : Nat) (hu : P.underlying dT = some (.slice elem)) (hi : P.info? elem = some inf) (hsize : inf.size = size)
    (dp sp : Option Addr) (dLen dCap sLen sCap : Nat) (hd : a.eval d = .slice dp dLen dCap) (hs : a.eval s = .slice sp sLen sCap) (g off : Nat) (cur : Array Value) (t : TypeId) (hg : hp w g = some (.cells cur t (0, 0)))
    (m : Nat) (hm : m = Nat.min sLen dLen) (cs : List Value) (hn : cs.length = m * size)
    (hpos : 0 < m → dp = some ⟨g, off, none⟩ ∧ ∃ ad, sp = some ad ∧ ∀ j v, cs[j]? = some v → w.cell? (ad.add j) = some v) (hfit : off + cs.length ≤ cur.size) (h1 : ∀ v ∈ cs, v.oneCell' = true)
    (h : ∀ w', hp w' g = some (.cells (lay cur.toList off cs).toArray t (0, 0)) → w.grownBy w' (some g) → wpList P ops Q rest (a.put o.dst (goInt m)) w') : wpList P ops Q (o :: rest) a w := by
  refine wpList_plain hgd fun K hK => ?_
  obtain ⟨w', hrun, h2, h3⟩ := run_copy_col (P := P) w dT sT o.type elem inf size hu hi hsize dp sp dLen dCap sLen sCap g off cur t hg m hm cs hn hpos hfit h1
  unfold Oper.wp execOp
  simp only [ho, resolve, invoke, builtin, Sem.run_bind, Sem.run_pure, Result.andThen_ok, List.map_toArray, List.map_cons, List.map_nil, hd, hs, hrun]
  exact hK _ _ (h w' h2 h3)

/-- clear of n elements. -/
theorem run_clear_col {P : Program} (w : World) (t e ty : TypeId) (z : Value) (ht : P.underlying t = some (.slice e)) (hv : ∀ w, (zeroValue e).run P w = .ok z w) (zs : List Value)
    (n c g off : Nat) (hz : (Builtin.zeroCells z.cells n).toList = zs) (hn : 0 < n) (cur : Array Value) (te : TypeId) (hg : hp w g = some (.cells cur te (0, 0))) (hfit : off + zs.length ≤ cur.size) (h1 : ∀ v ∈ zs, v.oneCell' = true) :
    ∃ w', (Builtin.clear_ #[t] ty #[.slice (some ⟨g, off, none⟩) n c]).run P w = .ok (.tuple #[]) w' ∧ hp w' g = some (.cells (lay cur.toList off zs).toArray te (0, 0)) ∧ w.grownBy w' (some g) := by
  have hst := run_storeCells_at P g off te zs 0 cur w hg (by simpa using hfit) h1
  obtain ⟨m, rfl⟩ : ∃ m, n = m + 1 := ⟨n - 1, by omega⟩
  refine ⟨_, ?_, setRow_heap w g cur (lay cur.toList off zs).toArray te _ hg, grownBy_setRow w g _⟩
  simp [Builtin.clear_, run_underlying ht, hv, hz, hst, lay]

theorem wpList_clear_col {P : Program} {w : World} {ops : Array Oper} {rest : List Oper} {o : Oper} {a : Act} {Q : Exit → Act → World → Prop} (hgd : o.guard = none) (d : Operand) (t : TypeId)
    (ho : o.op = .call { callee := .builtin .clear, args := #[d], argTypes := #[t] }) (e : TypeId) (z : Value) (ht : P.underlying t = some (.slice e)) (hv : ∀ w, (zeroValue e).run P w = .ok z w) (zs : List Value)
    (n c g off : Nat) (hd : a.eval d = .slice (some ⟨g, off, none⟩) n c) (hz : (Builtin.zeroCells z.cells n).toList = zs) (hn : 0 < n) (cur : Array Value) (te : TypeId) (hg : hp w g = some (.cells cur te (0, 0))) (hfit : off + zs.length ≤ cur.size) (h1 : ∀ v ∈ zs, v.oneCell' = true)
    (h : ∀ w', hp w' g = some (.cells (lay cur.toList off zs).toArray te (0, 0)) → w.grownBy w' (some g) → wpList P ops Q rest (a.put o.dst (.tuple #[])) w') : wpList P ops Q (o :: rest) a w := by
  refine wpList_plain hgd fun K hK => ?_
  obtain ⟨w', hrun, h2, h3⟩ := run_clear_col (P := P) w t e o.type z ht hv zs n c g off hz hn cur te hg hfit h1
  unfold Oper.wp execOp
  simp only [ho, resolve, invoke, builtin, Sem.run_bind, Sem.run_pure, Result.andThen_ok, List.map_toArray, List.map_cons, List.map_nil, hd, hrun]
  exact hK _ _ (h w' h2 h3)

/-- Lists of things as cells: each thing takes s cells. -/
structure Enc (α : Type) (enc : α → List Value) (s : Nat) : Prop where
  len : ∀ x, (enc x).length = s
  one : ∀ x, ∀ u ∈ enc x, u.oneCell' = true

section
variable {α : Type} {enc : α → List Value} {s : Nat}
theorem Enc.length (h : Enc α enc s) (L : List α) : (L.flatMap enc).length = L.length * s := by
  induction L with
  | nil => simp
  | cons x L ih => simp [h.len, ih, Nat.add_mul]; omega
theorem Enc.ones (h : Enc α enc s) (L : List α) : ∀ u ∈ L.flatMap enc, u.oneCell' = true := by
  intro u hu
  obtain ⟨x, _, hx⟩ := List.mem_flatMap.1 hu
  exact h.one x u hx
theorem Enc.drop (h : Enc α enc s) (L : List α) (k : Nat) : (L.flatMap enc).drop (k * s) = (L.drop k).flatMap enc := by
  induction k generalizing L with
  | zero => simp
  | succ k ih =>
    cases L with
    | nil => simp
    | cons x L =>
      rw [List.flatMap_cons, Nat.add_mul, Nat.one_mul, Nat.add_comm (k * s) s, ← List.drop_drop]
      rw [show List.drop s (enc x ++ L.flatMap enc) = L.flatMap enc from by rw [List.drop_append_of_le_length (by rw [h.len]; exact Nat.le_refl _)]; simp [← h.len x]]
      simpa using ih L
theorem Enc.take (h : Enc α enc s) (L : List α) (k : Nat) : (L.flatMap enc).take (k * s) = (L.take k).flatMap enc := by
  induction k generalizing L with
  | zero => simp
  | succ k ih =>
    cases L with
    | nil => simp
    | cons x L =>
      rw [List.flatMap_cons, Nat.add_mul, Nat.one_mul, Nat.add_comm (k * s) s, List.take_add]
      rw [show List.drop s (enc x ++ L.flatMap enc) = L.flatMap enc from by rw [List.drop_append_of_le_length (by rw [h.len]; exact Nat.le_refl _)]; simp [← h.len x]]
      rw [show List.take s (enc x ++ L.flatMap enc) = enc x from by rw [List.take_append_of_le_length (by rw [h.len]; exact Nat.le_refl _)]; simp [← h.len x]]
      simpa using ih L
/-- The cell k of thing j. -/
theorem Enc.get (h : Enc α enc s) (L : List α) (j k : Nat) (hj : j < L.length) (hk : k < s) : (L.flatMap enc)[j * s + k]? = (enc L[j])[k]? := by
  have h1 : (L.flatMap enc)[j * s + k]? = ((L.flatMap enc).drop (j * s))[k]? := by rw [List.getElem?_drop]
  rw [h1, h.drop, List.drop_eq_getElem_cons hj, List.flatMap_cons, List.getElem?_append_left (by rw [h.len]; exact hk)]
/-- What a Take leaves. -/
theorem Enc.taken (h : Enc α enc s) (L : List α) (i : Nat) (hi : i < L.length) (cur zs : List Value) (hcur : cur.take (L.length * s) = L.flatMap enc) (hlen : L.length * s ≤ cur.length) :
    (lay (lay cur (i * s) ((L.drop (i + 1)).flatMap enc)) ((L.length - 1) * s) zs).take ((L.length - 1) * s) = (L.eraseIdx i).flatMap enc := by
  have hl1 : ((L.drop (i + 1)).flatMap enc).length = (L.length - (i + 1)) * s := by rw [h.length, List.length_drop]
  have hs : i * s + (L.length - (i + 1)) * s = (L.length - 1) * s := by rw [← Nat.add_mul]; congr 1; omega
  have hle : (L.length - 1) * s ≤ L.length * s := Nat.mul_le_mul_right _ (by omega)
  have hle2 : i * s ≤ L.length * s := Nat.mul_le_mul_right _ (by omega)
  have hfit : i * s + ((L.drop (i + 1)).flatMap enc).length ≤ cur.length := by rw [hl1, hs]; omega
  have e1 : cur.take (i * s) = (L.take i).flatMap enc := by
    rw [← h.take, ← hcur, List.take_take, Nat.min_eq_left hle2]
  have e2 : cur.take (i * s) ++ (L.drop (i + 1)).flatMap enc = (L.eraseIdx i).flatMap enc := by
    rw [e1, ← List.flatMap_append, ← List.eraseIdx_eq_take_drop_succ]
  have e3 : ((L.eraseIdx i).flatMap enc).length = (L.length - 1) * s := by rw [h.length, List.length_eraseIdx_of_lt hi]
  unfold lay
  rw [e2]
  generalize (L.eraseIdx i).flatMap enc = A at e3
  rw [← e3]
  rw [List.append_assoc, List.take_append_of_le_length (by simp)]
  rw [List.take_take, Nat.min_self, List.take_append_of_le_length (Nat.le_refl _), List.take_length]
end
theorem Row.set {col : Nat → Nat} {i : Nat} {w : World} {e s n : Nat} {v : Value} {xs : List Value} (h : Row col i w e s v n xs) {p : Addr} (hne : v.ownBlock ≠ some p.block) (u : Value) : Row col i (w.setCell p u) e s v n xs := by
  refine ⟨⟨h.own.1, ?_⟩, h.col⟩
  rcases h.own.2 with hn | ⟨g, cap, cur, rfl, hg0, hgg, rest⟩
  · exact .inl hn
  · exact .inr ⟨g, cap, cur, rfl, hg0, (heap_set w p u (fun e => hne (by simp [Value.ownBlock, e]))).trans hgg, rest⟩
section
variable {col : Nat → Nat} {i : Nat} {w : World} {e s n g c : Nat} {cur : Array Value} {xs : List Value}
theorem Row.mk' (hg : hp w g = some (.cells cur e (0, 0))) (hnc : n ≤ c) (hcm : c ≤ maxLen) (hcs : cur.size = c * s) (htk : cur.toList.take (n * s) = xs) (hl : xs.length = n * s) (hcol : col g = i) :
    Row col i w e s (.slice (some ⟨g, 0, none⟩) n c) n xs :=
  ⟨⟨hl, .inr ⟨g, c, cur, rfl, Nat.zero_le _, hg, hnc, hcm, hcs, htk⟩⟩, fun g' h => by simp [Value.ownBlock] at h; subst h; exact hcol⟩
theorem Row.nil' : Row col i w e s (.slice none 0 0) 0 [] := ⟨World.ownsRow_nil w 0 e s, fun g h => by simp [Value.ownBlock] at h⟩
theorem zero_ones {z : Array Value} (h : ∀ u ∈ z.toList, u.oneCell' = true) (n : Nat) : ∀ u ∈ (Builtin.zeroCells z n).toList, u.oneCell' = true := by
  intro u hu
  simp only [Builtin.zeroCells, Array.toList_map, List.mem_map] at hu
  obtain ⟨k, hk, rfl⟩ := hu
  by_cases hz : z.size = 0
  · have : k ∈ (Array.range (n * z.size)).toList := hk
    simp [hz] at this
  · have hlt : k % z.size < z.size := Nat.mod_lt _ (by omega)
    rw [getElem!_pos z (k % z.size) hlt]
    exact h _ (by simp)
variable {α : Type} {enc : α → List Value}
theorem Enc.src (h : Enc α enc s) (L : List α) (q : Nat) (hg : hp w g = some (.cells cur e (0, 0))) (htk : cur.toList.take (L.length * s) = L.flatMap enc) :
    ∀ k v, ((L.drop q).flatMap enc)[k]? = some v → w.cell? ((⟨g, q * s, none⟩ : Addr).add k) = some v := by
  intro k v hv
  rw [← h.drop, List.getElem?_drop, ← htk, List.getElem?_take] at hv
  split at hv
  · rw [Addr.add_lit, hp_cell hg]; simpa using hv
  · cases hv
end
theorem zero_len (z : Array Value) (n : Nat) : (Builtin.zeroCells z n).toList.length = n * z.size := by simp [size_zeroCells]
/-- all that was there is of no one's -/
def zc : Nat → Nat := fun _ => 0
theorem Row.recol {col col' : Nat → Nat} {i i' : Nat} {w : World} {e s n : Nat} {v : Value} {xs : List Value} (h : Row col i w e s v n xs) (hc : ∀ g, v.ownBlock = some g → col' g = i') : Row col' i' w e s v n xs := ⟨h.own, hc⟩
theorem Row.new {w0 w : World} {e s n : Nat} {v : Value} {xs : List Value} (h : Row (paint zc w0 1) 1 w e s v n xs) {g : Nat} (hg : v.ownBlock = some g) : w0.heap.size ≤ g := by
  have := h.col g hg
  rcases Nat.lt_or_ge g w0.heap.size with h1 | h1
  · rw [paint_old h1] at this; simp [zc] at this
  · exact h1
theorem cell_below {W w1 : World} (hb : Below W.heap.size W w1) {g k : Nat} {u : Value} (h : W.cell? ⟨g, k, none⟩ = some u) : w1.cell? ⟨g, k, none⟩ = some u :=
  (hb.cell (p := ⟨g, k, none⟩) (World.block_lt_of_cell? W _ h)).trans h
theorem Mv.new {S : List Nat} {col : Nat → Nat} {w w' : World} (hb : Below w.heap.size w w') (q : Nat) : Mv S col w (paint col w q) w' :=
  ⟨hb.os, hb.tape, hb.output, hb.size, fun k hk _ => hb.block k hk, fun _ hk => paint_old hk⟩
theorem hp_ch {col : Nat → Nat} {i : Nat} {w w' : World} {g : Nat} {x : Obj} (h : hp w g = some x) (hC : Ch col i w w') (hc : col g ≠ i) : hp w' g = some x := by
  unfold hp; rw [hC.block g (hp_lt h) hc]; exact h
end Go.Cl
