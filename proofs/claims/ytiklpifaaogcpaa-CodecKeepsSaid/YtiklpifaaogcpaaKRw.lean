/- Texts laid together: RowLib KRd KRs. -/
import Derived.Test.YtiklpifaaogcpaaRows
import Derived.Test.YtiklpifaaogcpaaRdr
import Derived.Test.YtiklpifaaogcpaaKb
import Derived.WalkKit
import Derived.ProofKit
import Derived.OpenShut
import Derived.Lib.SmallJoins
import Derived.SizedLaws
namespace Go.Proofs.Ytiklpifaaogcpaa
open Go.ChangeShapes Go.WideShapes Go.ChangeAt Go.RowKit
/-- The arguments read behind the call as they did: nothing that was there has turned. -/
theorem trodAll_below {H : Type} {enc : TypeId × Value → H} {P : Program} (hl : laidOutB P = true) {W W' : World} (hb : Below W.heap.size W W') :
    ∀ (ts : List TypeId) (vs : List Value) (ds : List (DataW H)) (ps : List MemPlace), ts.all (fun t => P.readableRec t && decide (t < P.types.size)) = true →
    DataW.TrodAll enc P W 0 (fun _ => true) true ts vs ds ps → (∀ x ∈ ps, x.block < W.heap.size) → DataW.TrodAll enc P W' 0 (fun b => decide (b < W.heap.size)) true ts vs ds ps
  | [], vs, ds, ps, _, h, _ => by
    obtain ⟨rfl, rfl, rfl⟩ := trodAll_nil h
    exact trodAll_mk0
  | t :: ts, vs, ds, ps, hr, h, hlt => by
    obtain ⟨v, vs', d, ds', p, q, rfl, rfl, rfl, h1, h2⟩ := trodAll_cons h
    simp only [List.all_cons, Bool.and_eq_true, decide_eq_true_eq] at hr
    exact trodAll_cons_mk (Below.trod hl hr.1.1 hr.1.2 h1 hb fun x hx => hlt x (List.mem_append_left _ hx))
      (trodAll_below hl hb ts vs' ds' q (by simpa using hr.2) h2 fun x hx => hlt x (List.mem_append_right _ hx))

/-- WHAT A LAW's ROW ASKS BEHIND THE CALL, where the call returned true and turned nothing that was there. -/
theorem post_law {H : Type} {enc : TypeId × Value → H} {P : Program} {f : Func} {s : ChangeSpec} {W W' : World} {args : Array Value} {ds gs : List (DataW H)} {before : List MemPlace} {tb : TypeId}
    (hl : laidOutB P = true) (hpar : f.params.toList.all (fun t => P.readableRec t && decide (t < P.types.size)) = true) (hrt : f.resultTypes = #[tb]) (htb : P.underlying tb = some .bool)
    (hW : DataW.Whole enc P f.params.toList s.vars false W args.toList ds gs before) (hv : s.vars = [])
    (hfn : s.fn H (ds ++ gs) = { results := [.lit (.bool true)], args := ds }) (hb : Below W.heap.size W W') :
    s.post enc P f false true false false W args (.bool true) W' := by
  have hlt : ∀ p ∈ before, p.block < W.heap.size := fun p hp => hW.lt p hp
  have hW' := hW
  obtain ⟨p, q, hA, hV, rfl, _, _⟩ := hW
  rw [hv] at hV
  obtain ⟨rfl, rfl⟩ := trodVars_none hV
  simp only [List.append_nil] at hW' hlt hfn
  refine ⟨ds, [], p, [], p, [], hW', ?_, ?_, ?_, hb.frame _, fun h => by cases h⟩
  · rw [List.append_nil, hfn, hrt]
    exact trodAll_mk1 (shut_bool htb true)
  · rw [List.append_nil, hfn]
    exact trodAll_below hl hb _ _ _ _ hpar hA hlt
  · rw [List.append_nil, hfn, hv]
    rfl

end Go.Proofs.Ytiklpifaaogcpaa

namespace Go.Proofs.Ytiklpifaaogcpaa
open Go.RowKit Go.Cl Go.Wr Go.Kc Go.Rdr Go.ChangeShapes Go.WideShapes Go.ChangeAt
set_option maxRecDepth 100000
set_option linter.unusedVariables false
set_option linter.unusedSimpArgs false
theorem Try.cells2 : Try.prog.cellsOf 2 = 1 := by kernel_rfl
theorem Try.cells3 : Try.prog.cellsOf 3 = 1 := by kernel_rfl
theorem Try.cells4 : Try.prog.cellsOf 4 = 1 := by kernel_rfl
theorem Try.cells9 : Try.prog.cellsOf 9 = 1 := by kernel_rfl
theorem Try.cells23 : Try.prog.cellsOf 23 = 2 := by kernel_rfl
theorem Try.cells25 : Try.prog.cellsOf 25 = 2 := by kernel_rfl
theorem Try.cells26 : Try.prog.cellsOf 26 = 1 := by kernel_rfl
theorem Try.cells27 : Try.prog.cellsOf 27 = 1 := by kernel_rfl
theorem Try.cells28 : Try.prog.cellsOf 28 = 1 := by kernel_rfl
theorem Try.cells30 : Try.prog.cellsOf 30 = 16 := by kernel_rfl
theorem Try.cells49 : Try.prog.cellsOf 49 = 3 := by kernel_rfl

def ElW (x : Wt) (cs : List Value) : Prop := cs = [.string x.k, .bool x.h, .string x.d]
def ElP (x : Int × Int) (cs : List Value) : Prop := cs = [.int .i64 x.1, .int .i64 x.2] ∧ I64 x.1 ∧ I64 x.2
def ElV (x : Bool × ByteArray) (cs : List Value) : Prop := cs = [.bool x.1, .string x.2]
theorem rd_pin {H : Type} {enc : TypeId × Value → H} {w : World} {base : Nat} {spare : Nat → Bool} {held : Bool} : Rd enc Try.prog w base spare held 23 ElP :=
  rd_mono (rd_struct2 Try.underlying23 (Rdr.rd_int Try.underlying2) (Rdr.rd_int Try.underlying2)) (by
    rintro ⟨a, b⟩ cs ⟨hl, ⟨h0, q0⟩, ⟨h1, q1⟩⟩
    rw [Try.cells23] at hl
    match cs, hl with
    | [x, y], _ =>
      simp [Rdr.part, Try.cells2] at h0 h1
      subst h0 h1
      exact ⟨rfl, q0, q1⟩)
theorem rd_val {H : Type} {enc : TypeId × Value → H} {w : World} {base : Nat} {spare : Nat → Bool} {held : Bool} : Rd enc Try.prog w base spare held 25 ElV :=
  rd_mono (rd_struct2 Try.underlying25 (Rdr.rd_bool Try.underlying4) (Rdr.rd_string Try.underlying9)) (by
    rintro ⟨a, b⟩ cs ⟨hl, h0, ⟨h1, q1⟩⟩
    rw [Try.cells25] at hl
    match cs, hl with
    | [x, y], _ =>
      simp [Rdr.part, Try.cells4, Try.cells9] at h0 h1
      subst h0 h1
      rfl)
theorem rd_wt {H : Type} {enc : TypeId × Value → H} {w : World} {base : Nat} {spare : Nat → Bool} {held : Bool} : Rd enc Try.prog w base spare held 49 ElW := by
  intro fuel cs x h
  obtain ⟨⟨k, v⟩, hl, ⟨h0, q0⟩, h1⟩ := rd_struct2 Try.underlying49 (Rdr.rd_string Try.underlying9) rd_val fuel cs x h
  refine ⟨⟨k, v.1, v.2⟩, ?_⟩
  rw [Try.cells49] at hl
  match cs, hl with
  | [x, y, z], _ =>
    simp [Rdr.part, ElV, Try.cells9, Try.cells25] at h0 h1
    obtain ⟨rfl, rfl⟩ := h1
    subst h0
    rfl
theorem slIs_lsW {w : World} {base : Nat} {v : Value} {L : List Wt} (hs : SlIs w base 3 ElW v L) : ∃ p c, v = .slice p L.length c ∧ LsW w p c L := by
  obtain ⟨p, c, rfl, h1, h2, hx⟩ := hs
  refine ⟨p, c, rfl, ⟨h1, h2⟩, fun i x hi => ?_⟩
  obtain ⟨hi, e⟩ := List.getElem?_eq_some_iff.1 hi
  obtain ⟨b, f, cs, hp, _, hb, hl, hr, hc⟩ := hx i hi
  have h1 : cs = [.string x.k, .bool x.h, .string x.d] := by rw [← e]; exact hr
  subst h1
  exact ⟨b, f, hp, hb, hc 0 (by omega), hc 1 (by omega), hc 2 (by omega)⟩
theorem slIs_lsS {w : World} {base : Nat} {v : Value} {L : List ByteArray} (hs : SlIs w base 1 (fun (s : ByteArray) cs => cs = [.string s] ∧ s.size ≤ maxLen) v L) : ∃ p c, v = .slice p L.length c ∧ LsS w p c L := by
  obtain ⟨p, c, rfl, h1, h2, hx⟩ := hs
  refine ⟨p, c, rfl, ⟨h1, h2⟩, fun i x hi => ?_⟩
  obtain ⟨hi, e⟩ := List.getElem?_eq_some_iff.1 hi
  obtain ⟨b, f, cs, hp, _, hb, hl, hr, hc⟩ := hx i hi
  have h1 : cs = [.string x] := by rw [← e]; exact hr.1
  subst h1
  have := hc 0 (by omega)
  rw [Nat.mul_one, Nat.add_zero] at this
  exact ⟨b, f, hp, hb, this⟩
/-- What a message looks like that comes in. -/
def MsgR (w : World) (m : Mg) (cs : List Value) : Prop := ∃ wp wc kp kc, cs = (m.cs wp wc kp kc).toList ∧ m.In ∧ LsW w wp wc m.W ∧ LsS w kp kc m.K
theorem rd_msg {H : Type} {enc : TypeId × Value → H} {w : World} {base : Nat} {spare : Nat → Bool} {held : Bool} : Rd enc Try.prog w base spare held 30 (MsgR w) := by
  intro fuel cs x h
  obtain ⟨xs, n, _, _, hl, hxl, hf⟩ := DataW.trod_struct Try.underlying30 h
  have g0 := hf 0 _ rfl
  have g1 := hf 1 _ rfl
  have g2 := hf 2 _ rfl
  have g3 := hf 3 _ rfl
  have g4 := hf 4 _ rfl
  have g5 := hf 5 _ rfl
  have g6 := hf 6 _ rfl
  have g7 := hf 7 _ rfl
  have g8 := hf 8 _ rfl
  have g9 := hf 9 _ rfl
  have g10 := hf 10 _ rfl
  have g11 := hf 11 _ rfl
  have g12 := hf 12 _ rfl
  have g13 := hf 13 _ rfl
  clear hf
  simp only [List.size_toArray, List.length_cons, List.length_nil] at hxl
  rw [Try.cells30] at hl
  match xs, hxl with
  | [y0, y1, y2, y3, y4, y5, y6, y7, y8, y9, y10, y11, y12, y13], _ =>
    obtain ⟨a0, h0, q0⟩ := Rdr.rd_int Try.underlying3 _ _ _ g0
    obtain ⟨a1, h1, q1⟩ := Rdr.rd_int Try.underlying3 _ _ _ g1
    obtain ⟨a2, h2, q2⟩ := Rdr.rd_int Try.underlying3 _ _ _ g2
    obtain ⟨a3, h3, q3⟩ := Rdr.rd_int Try.underlying3 _ _ _ g3
    obtain ⟨a4, h4, q4⟩ := Rdr.rd_int Try.underlying3 _ _ _ g4
    obtain ⟨a5, h5, q5⟩ := Rdr.rd_int Try.underlying3 _ _ _ g5
    obtain ⟨a6, h6, q6⟩ := Rdr.rd_string Try.underlying9 _ _ _ g6
    obtain ⟨⟨lo, hi⟩, h7, qlo, qhi⟩ := rd_pin _ _ _ g7
    obtain ⟨⟨has, data⟩, h8⟩ := rd_val _ _ _ g8
    obtain ⟨a9, h9⟩ := Rdr.rd_bool Try.underlying4 _ _ _ g9
    obtain ⟨a10, h10, q10⟩ := Rdr.rd_int Try.underlying26 _ _ _ g10
    obtain ⟨a11, h11, q11⟩ := Rdr.rd_int Try.underlying2 _ _ _ g11
    obtain ⟨LW, vw, h12, sw⟩ := rd_slice Try.underlying27 Try.cells49 (by decide) rd_wt _ _ _ g12
    obtain ⟨LK, vk, h13, sk⟩ := rd_slice Try.underlying28 Try.cells9 (by decide) (Rdr.rd_string Try.underlying9) _ _ _ g13
    obtain ⟨wp, wc, rfl, lw⟩ := slIs_lsW sw
    obtain ⟨kp, kc, rfl, lk⟩ := slIs_lsS sk
    clear g0 g1 g2 g3 g4 g5 g6 g7 g8 g9 g10 g11 g12 g13 sw sk
    match cs, hl with
    | [c0, c1, c2, c3, c4, c5, c6, c7, c8, c9, c10, c11, c12, c13, c14, c15], _ =>
      replace h0 : (List.drop 0 [c0, c1, c2, c3, c4, c5, c6, c7, c8, c9, c10, c11, c12, c13, c14, c15]).take (Try.prog.cellsOf 3) = [.int .i64 a0] := h0
      rw [Try.cells3] at h0
      replace h1 : (List.drop 1 [c0, c1, c2, c3, c4, c5, c6, c7, c8, c9, c10, c11, c12, c13, c14, c15]).take (Try.prog.cellsOf 3) = [.int .i64 a1] := h1
      rw [Try.cells3] at h1
      replace h2 : (List.drop 2 [c0, c1, c2, c3, c4, c5, c6, c7, c8, c9, c10, c11, c12, c13, c14, c15]).take (Try.prog.cellsOf 3) = [.int .i64 a2] := h2
      rw [Try.cells3] at h2
      replace h3 : (List.drop 3 [c0, c1, c2, c3, c4, c5, c6, c7, c8, c9, c10, c11, c12, c13, c14, c15]).take (Try.prog.cellsOf 3) = [.int .i64 a3] := h3
      rw [Try.cells3] at h3
      replace h4 : (List.drop 4 [c0, c1, c2, c3, c4, c5, c6, c7, c8, c9, c10, c11, c12, c13, c14, c15]).take (Try.prog.cellsOf 3) = [.int .i64 a4] := h4
      rw [Try.cells3] at h4
      replace h5 : (List.drop 5 [c0, c1, c2, c3, c4, c5, c6, c7, c8, c9, c10, c11, c12, c13, c14, c15]).take (Try.prog.cellsOf 3) = [.int .i64 a5] := h5
      rw [Try.cells3] at h5
      replace h6 : (List.drop 6 [c0, c1, c2, c3, c4, c5, c6, c7, c8, c9, c10, c11, c12, c13, c14, c15]).take (Try.prog.cellsOf 9) = [.string a6] := h6
      rw [Try.cells9] at h6
      replace h7 : (List.drop 7 [c0, c1, c2, c3, c4, c5, c6, c7, c8, c9, c10, c11, c12, c13, c14, c15]).take (Try.prog.cellsOf 23) = [.int .i64 lo, .int .i64 hi] := h7
      rw [Try.cells23] at h7
      replace h8 : (List.drop 9 [c0, c1, c2, c3, c4, c5, c6, c7, c8, c9, c10, c11, c12, c13, c14, c15]).take (Try.prog.cellsOf 25) = [.bool has, .string data] := h8
      rw [Try.cells25] at h8
      replace h9 : (List.drop 11 [c0, c1, c2, c3, c4, c5, c6, c7, c8, c9, c10, c11, c12, c13, c14, c15]).take (Try.prog.cellsOf 4) = [.bool a9] := h9
      rw [Try.cells4] at h9
      replace h10 : (List.drop 12 [c0, c1, c2, c3, c4, c5, c6, c7, c8, c9, c10, c11, c12, c13, c14, c15]).take (Try.prog.cellsOf 26) = [.int .i64 a10] := h10
      rw [Try.cells26] at h10
      replace h11 : (List.drop 13 [c0, c1, c2, c3, c4, c5, c6, c7, c8, c9, c10, c11, c12, c13, c14, c15]).take (Try.prog.cellsOf 2) = [.int .i64 a11] := h11
      rw [Try.cells2] at h11
      replace h12 : (List.drop 14 [c0, c1, c2, c3, c4, c5, c6, c7, c8, c9, c10, c11, c12, c13, c14, c15]).take (Try.prog.cellsOf 27) = [.slice wp LW.length wc] := h12
      rw [Try.cells27] at h12
      replace h13 : (List.drop 15 [c0, c1, c2, c3, c4, c5, c6, c7, c8, c9, c10, c11, c12, c13, c14, c15]).take (Try.prog.cellsOf 28) = [.slice kp LK.length kc] := h13
      rw [Try.cells28] at h13
      simp at h0 h1 h2 h3 h4 h5 h6 h7 h8 h9 h10 h11 h12 h13
      obtain ⟨h7, h7'⟩ := h7
      obtain ⟨h8, h8'⟩ := h8
      subst h0 h1 h2 h3 h4 h5 h6 h7 h7' h8 h8' h9 h10 h11 h12 h13
      exact ⟨⟨a0, a1, a2, a3, a4, a5, a6, lo, hi, has, data, a9, a10, a11, LW, LK⟩, wp, wc, kp, kc, rfl, ⟨q0, q1, q2, q3, q4, q5, qlo, qhi, q10, q11⟩, lw, lk⟩
end Go.Proofs.Ytiklpifaaogcpaa

namespace Go.Proofs.Ytiklpifaaogcpaa
open Go.RowKit Go.Cl Go.Wr Go.Kc Go.Rdr Go.ChangeShapes Go.WideShapes Go.ChangeAt
set_option maxRecDepth 100000
set_option linter.unusedVariables false
set_option linter.unusedSimpArgs false
theorem Try.bytes49 : Try.prog.bytesOf 49 = 40 := by kernel_rfl
theorem Try.bytes9 : Try.prog.bytesOf 9 = 16 := by kernel_rfl
theorem slice_reach {H : Type} {enc : TypeId × Value → H} {P : Program} {w : World} {base : Nat} {spare : Nat → Bool} {held : Bool} {ts : List TypeId} {ds : List (DataW H)} {t e : TypeId} {p : Option Addr} {n c : Nat} {d : DataW H} {ps : List MemPlace} {j : Nat}
    (h : (DataW.weightsEach P ts ds).all (· ≤ reachBytes) = true) (ht : ts[j]? = some t) (hd : ds[j]? = some d) (hu : P.underlying t = some (.slice e)) (hT : DataW.Trod enc P w base spare held t (.slice p n c) d ps) : n * P.bytesOf e ≤ reachBytes := by
  obtain ⟨fuel, hf⟩ := hT
  rcases Go.Deep.open_slice hu hf with ⟨h1, h2⟩ | ⟨a, len, cap, m, n', D, Pl, h1, _, h3, _, h4, h2, _⟩
  · simp [Value.cells] at h1
    rw [h1.2.1, Nat.zero_mul]; exact Nat.zero_le _
  · simp [Value.cells] at h1
    simp only [Prod.mk.injEq] at h2
    have e1 := h2.1
    subst e1
    have := sized_slice h ht hd hu
    simp only [List.length_map, List.length_range] at this
    rw [h1.2.1]
    refine Nat.le_trans (Nat.mul_le_mul_right _ ?_) this
    omega
theorem msg_reach {H : Type} {enc : TypeId × Value → H} {w : World} {base : Nat} {spare : Nat → Bool} {held : Bool} {ts : List TypeId} {ds : List (DataW H)} {d : DataW H} {ps : List MemPlace} {j : Nat} {m : Mg} {wp : Option Addr} {wc : Nat} {kp : Option Addr} {kc : Nat}
    (h : (DataW.weightsEach Try.prog ts ds).all (· ≤ reachBytes) = true) (ht : ts[j]? = some 30) (hd : ds[j]? = some d) (hT : DataW.Trod enc Try.prog w base spare held 30 (.agg (m.cs wp wc kp kc)) d ps) : m.W.length * 40 ≤ reachBytes ∧ m.K.length * 16 ≤ reachBytes := by
  have h30 : (d.weights Try.prog 30).all (· ≤ reachBytes) = true := List.all_eq_true.2 fun n hn => List.all_eq_true.1 h n (DataW.weights_mem_each ht hd n hn)
  obtain ⟨fuel, hf⟩ := hT
  obtain ⟨xs, n, _, hx, hl, hxl, hg⟩ := DataW.trod_struct Try.underlying30 hf
  have g12 := hg 12 _ rfl
  have g13 := hg 13 _ rfl
  clear hg
  simp only [List.size_toArray, List.length_cons, List.length_nil] at hxl
  match xs, hxl with
  | [y0, y1, y2, y3, y4, y5, y6, y7, y8, y9, y10, y11, y12, y13], _ =>
    simp only [Prod.mk.injEq] at hx
    obtain ⟨rfl, -⟩ := hx
    have hw : (DataW.weightsEach Try.prog [3, 3, 3, 3, 3, 3, 9, 23, 25, 4, 26, 2, 27, 28] [y0.1, y1.1, y2.1, y3.1, y4.1, y5.1, y6.1, y7.1, y8.1, y9.1, y10.1, y11.1, y12.1, y13.1]).all (· ≤ reachBytes) = true := by
      simpa [DataW.weights, Try.underlying30] using h30
    have k12 : DataW.trod enc Try.prog w base spare held n 27 ((List.drop 14 (m.cs wp wc kp kc).toList).take (Try.prog.cellsOf 27)) = some y12 := g12
    have k13 : DataW.trod enc Try.prog w base spare held n 28 ((List.drop 15 (m.cs wp wc kp kc).toList).take (Try.prog.cellsOf 28)) = some y13 := g13
    rw [Try.cells27] at k12
    rw [Try.cells28] at k13
    have r1 := slice_reach (j := 12) (d := y12.1) (ps := y12.2) hw rfl rfl Try.underlying27 ⟨n, (k12 : DataW.trod enc Try.prog w base spare held n 27 (Value.cells (.slice wp m.W.length wc)).toList = some y12)⟩
    have r2 := slice_reach (j := 13) (d := y13.1) (ps := y13.2) hw rfl rfl Try.underlying28 ⟨n, (k13 : DataW.trod enc Try.prog w base spare held n 28 (Value.cells (.slice kp m.K.length kc)).toList = some y13)⟩
    rw [Try.bytes49] at r1
    rw [Try.bytes9] at r2
    exact ⟨r1, r2⟩
end Go.Proofs.Ytiklpifaaogcpaa
