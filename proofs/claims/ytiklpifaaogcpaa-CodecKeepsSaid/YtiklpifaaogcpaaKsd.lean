/- Same: the first field that differs. -/
import Derived.Test.YtiklpifaaogcpaaKsb
import Derived.WalkKit
import Derived.WalkLawsBesides
import Derived.WalkSpells
import Derived.Below
import Derived.Deep.RegionHeld3
import Derived.Deep.QuietTactic
import Derived.BigQuiet
import Derived.Deep.DeepCutAuto
import Derived.Deep.DeepMust
import Derived.KernelRfl
import Derived.Lib.Hide
import Derived.Outline
import Derived.RegionTactic
import Derived.StillTailTactics
import Derived.Laws.IdiomStrings
import Derived.Handy
namespace Go.Proofs.Ytiklpifaaogcpaa
open Go.RowKit Go.Cl Go.Wr Go.Kc
set_option maxRecDepth 100000
set_option linter.unusedVariables false
set_option linter.unusedSimpArgs false


set_option maxHeartbeats 2000000 in
theorem c_same_5 (w : World) (kind : Int) (node : Int) (inc : Int) (ses : Int) (tx : Int) (seq : Int) (key : ByteArray) (lo : Int) (hi : Int) (has : Bool) (data : ByteArray) (hit : Bool) (err : Int) (n : Int) (NW : Nat) (NK : Nat) (seq' : Int) (key' : ByteArray) (lo' : Int) (hi' : Int) (has' : Bool) (data' : ByteArray) (hit' : Bool) (err' : Int) (n' : Int) (NW' : Nat) (NK' : Nat) (wp kp wp' kp' : Option Addr) (xc yc xc' yc' : Nat) (hne : (seq != seq') = true) (hne2 : (seq == seq') = false) :
    Calls Try.prog 16 #[.agg #[.int .i64 kind, .int .i64 node, .int .i64 inc, .int .i64 ses, .int .i64 tx, .int .i64 seq, .string key, .int .i64 lo, .int .i64 hi, .bool has, .string data, .bool hit, .int .i64 err, .int .i64 n, .slice wp NW xc, .slice kp NK yc], .agg #[.int .i64 kind, .int .i64 node, .int .i64 inc, .int .i64 ses, .int .i64 tx, .int .i64 seq', .string key', .int .i64 lo', .int .i64 hi', .bool has', .string data', .bool hit', .int .i64 err', .int .i64 n', .slice wp' NW' xc', .slice kp' NK' yc']] w (RetF w) := by
  obtain ⟨A, hA⟩ : ∃ A : Array Value, A = #[.int .i64 kind, .int .i64 node, .int .i64 inc, .int .i64 ses, .int .i64 tx, .int .i64 seq, .string key, .int .i64 lo, .int .i64 hi, .bool has, .string data, .bool hit, .int .i64 err, .int .i64 n, .slice wp NW xc, .slice kp NK yc] := ⟨_, rfl⟩
  obtain ⟨B, hB⟩ : ∃ A : Array Value, A = #[.int .i64 kind, .int .i64 node, .int .i64 inc, .int .i64 ses, .int .i64 tx, .int .i64 seq', .string key', .int .i64 lo', .int .i64 hi', .bool has', .string data', .bool hit', .int .i64 err', .int .i64 n', .slice wp' NW' xc', .slice kp' NK' yc'] := ⟨_, rfl⟩
  rw [← hA, ← hB]
  have HAB := Lib.hid (And.intro hA hB); clear hA hB
  go_enter Try.func16, Try.ntmps16
  go_step
  go_cut [2, 3] (fun s2 s3 W => s2 = .pointer (some ⟨w.heap.size, 0, none⟩) ∧ s3 = .pointer (some ⟨w.heap.size + 1, 0, none⟩) ∧ hp W w.heap.size = some (.cells A 30 (0, 0)) ∧ hp W (w.heap.size+1) = some (.cells B 30 (0, 0)) ∧ Below w.heap.size w W)
  case first =>
    go_wp2
    go_meet
    refine ⟨rfl, rfl, ?_, ?_, (by (repeat (first | (with_reducible exact Below.refl _ _) | (with_reducible refine below_drew ?_) | (with_reducible refine below_alloc ?_ _))))⟩
    · rw [hpA, hpA, size_al, if_neg (by omega), if_pos rfl]
    · rw [hpA, size_al, if_pos rfl]
  case rest =>
  obtain ⟨rfl, rfl, k1, k3, hBW⟩ := hcut
  rename World => w1
  generalize hb1 : w.heap.size = b1 at *
  generalize hb3 : b1 + 1 = b3 at *
  have HBB : Hid (Below b1 w w1) := Lib.hid hBW
  clear hBW
  rw [HAB.out.1] at k1
  rw [HAB.out.2] at k3
  have c1 := hp_cell k1
  have c3 := hp_cell k3
  clear k1 k3
  go_wp2
  go_ret
  exact ⟨rfl, by rw [hb1]; exact HBB.out⟩

set_option maxHeartbeats 2000000 in
theorem c_same_6 (w : World) (kind : Int) (node : Int) (inc : Int) (ses : Int) (tx : Int) (seq : Int) (key : ByteArray) (lo : Int) (hi : Int) (has : Bool) (data : ByteArray) (hit : Bool) (err : Int) (n : Int) (NW : Nat) (NK : Nat) (key' : ByteArray) (lo' : Int) (hi' : Int) (has' : Bool) (data' : ByteArray) (hit' : Bool) (err' : Int) (n' : Int) (NW' : Nat) (NK' : Nat) (wp kp wp' kp' : Option Addr) (xc yc xc' yc' : Nat) (hne : (key.toList == key'.toList) = false) :
    Calls Try.prog 16 #[.agg #[.int .i64 kind, .int .i64 node, .int .i64 inc, .int .i64 ses, .int .i64 tx, .int .i64 seq, .string key, .int .i64 lo, .int .i64 hi, .bool has, .string data, .bool hit, .int .i64 err, .int .i64 n, .slice wp NW xc, .slice kp NK yc], .agg #[.int .i64 kind, .int .i64 node, .int .i64 inc, .int .i64 ses, .int .i64 tx, .int .i64 seq, .string key', .int .i64 lo', .int .i64 hi', .bool has', .string data', .bool hit', .int .i64 err', .int .i64 n', .slice wp' NW' xc', .slice kp' NK' yc']] w (RetF w) := by
  obtain ⟨A, hA⟩ : ∃ A : Array Value, A = #[.int .i64 kind, .int .i64 node, .int .i64 inc, .int .i64 ses, .int .i64 tx, .int .i64 seq, .string key, .int .i64 lo, .int .i64 hi, .bool has, .string data, .bool hit, .int .i64 err, .int .i64 n, .slice wp NW xc, .slice kp NK yc] := ⟨_, rfl⟩
  obtain ⟨B, hB⟩ : ∃ A : Array Value, A = #[.int .i64 kind, .int .i64 node, .int .i64 inc, .int .i64 ses, .int .i64 tx, .int .i64 seq, .string key', .int .i64 lo', .int .i64 hi', .bool has', .string data', .bool hit', .int .i64 err', .int .i64 n', .slice wp' NW' xc', .slice kp' NK' yc'] := ⟨_, rfl⟩
  rw [← hA, ← hB]
  have HAB := Lib.hid (And.intro hA hB); clear hA hB
  go_enter Try.func16, Try.ntmps16
  go_step
  go_cut [2, 3] (fun s2 s3 W => s2 = .pointer (some ⟨w.heap.size, 0, none⟩) ∧ s3 = .pointer (some ⟨w.heap.size + 1, 0, none⟩) ∧ hp W w.heap.size = some (.cells A 30 (0, 0)) ∧ hp W (w.heap.size+1) = some (.cells B 30 (0, 0)) ∧ Below w.heap.size w W)
  case first =>
    go_wp2
    go_meet
    refine ⟨rfl, rfl, ?_, ?_, (by (repeat (first | (with_reducible exact Below.refl _ _) | (with_reducible refine below_drew ?_) | (with_reducible refine below_alloc ?_ _))))⟩
    · rw [hpA, hpA, size_al, if_neg (by omega), if_pos rfl]
    · rw [hpA, size_al, if_pos rfl]
  case rest =>
  obtain ⟨rfl, rfl, k1, k3, hBW⟩ := hcut
  rename World => w1
  generalize hb1 : w.heap.size = b1 at *
  generalize hb3 : b1 + 1 = b3 at *
  have HBB : Hid (Below b1 w w1) := Lib.hid hBW
  clear hBW
  rw [HAB.out.1] at k1
  rw [HAB.out.2] at k3
  have c1 := hp_cell k1
  have c3 := hp_cell k3
  clear k1 k3
  go_wp2
  go_ret
  exact ⟨rfl, by rw [hb1]; exact HBB.out⟩

set_option maxHeartbeats 2000000 in
theorem c_same_7 (w : World) (kind : Int) (node : Int) (inc : Int) (ses : Int) (tx : Int) (seq : Int) (key : ByteArray) (lo : Int) (hi : Int) (has : Bool) (data : ByteArray) (hit : Bool) (err : Int) (n : Int) (NW : Nat) (NK : Nat) (lo' : Int) (hi' : Int) (has' : Bool) (data' : ByteArray) (hit' : Bool) (err' : Int) (n' : Int) (NW' : Nat) (NK' : Nat) (wp kp wp' kp' : Option Addr) (xc yc xc' yc' : Nat) (hne : (lo != lo') = true) (hne2 : (lo == lo') = false) :
    Calls Try.prog 16 #[.agg #[.int .i64 kind, .int .i64 node, .int .i64 inc, .int .i64 ses, .int .i64 tx, .int .i64 seq, .string key, .int .i64 lo, .int .i64 hi, .bool has, .string data, .bool hit, .int .i64 err, .int .i64 n, .slice wp NW xc, .slice kp NK yc], .agg #[.int .i64 kind, .int .i64 node, .int .i64 inc, .int .i64 ses, .int .i64 tx, .int .i64 seq, .string key, .int .i64 lo', .int .i64 hi', .bool has', .string data', .bool hit', .int .i64 err', .int .i64 n', .slice wp' NW' xc', .slice kp' NK' yc']] w (RetF w) := by
  obtain ⟨A, hA⟩ : ∃ A : Array Value, A = #[.int .i64 kind, .int .i64 node, .int .i64 inc, .int .i64 ses, .int .i64 tx, .int .i64 seq, .string key, .int .i64 lo, .int .i64 hi, .bool has, .string data, .bool hit, .int .i64 err, .int .i64 n, .slice wp NW xc, .slice kp NK yc] := ⟨_, rfl⟩
  obtain ⟨B, hB⟩ : ∃ A : Array Value, A = #[.int .i64 kind, .int .i64 node, .int .i64 inc, .int .i64 ses, .int .i64 tx, .int .i64 seq, .string key, .int .i64 lo', .int .i64 hi', .bool has', .string data', .bool hit', .int .i64 err', .int .i64 n', .slice wp' NW' xc', .slice kp' NK' yc'] := ⟨_, rfl⟩
  rw [← hA, ← hB]
  have HAB := Lib.hid (And.intro hA hB); clear hA hB
  go_enter Try.func16, Try.ntmps16
  go_step
  go_cut [2, 3] (fun s2 s3 W => s2 = .pointer (some ⟨w.heap.size, 0, none⟩) ∧ s3 = .pointer (some ⟨w.heap.size + 1, 0, none⟩) ∧ hp W w.heap.size = some (.cells A 30 (0, 0)) ∧ hp W (w.heap.size+1) = some (.cells B 30 (0, 0)) ∧ Below w.heap.size w W)
  case first =>
    go_wp2
    go_meet
    refine ⟨rfl, rfl, ?_, ?_, (by (repeat (first | (with_reducible exact Below.refl _ _) | (with_reducible refine below_drew ?_) | (with_reducible refine below_alloc ?_ _))))⟩
    · rw [hpA, hpA, size_al, if_neg (by omega), if_pos rfl]
    · rw [hpA, size_al, if_pos rfl]
  case rest =>
  obtain ⟨rfl, rfl, k1, k3, hBW⟩ := hcut
  rename World => w1
  generalize hb1 : w.heap.size = b1 at *
  generalize hb3 : b1 + 1 = b3 at *
  have HBB : Hid (Below b1 w w1) := Lib.hid hBW
  clear hBW
  rw [HAB.out.1] at k1
  rw [HAB.out.2] at k3
  have c1 := hp_cell k1
  have c3 := hp_cell k3
  clear k1 k3
  go_wp2
  go_ret
  exact ⟨rfl, by rw [hb1]; exact HBB.out⟩

set_option maxHeartbeats 2000000 in
theorem c_same_8 (w : World) (kind : Int) (node : Int) (inc : Int) (ses : Int) (tx : Int) (seq : Int) (key : ByteArray) (lo : Int) (hi : Int) (has : Bool) (data : ByteArray) (hit : Bool) (err : Int) (n : Int) (NW : Nat) (NK : Nat) (hi' : Int) (has' : Bool) (data' : ByteArray) (hit' : Bool) (err' : Int) (n' : Int) (NW' : Nat) (NK' : Nat) (wp kp wp' kp' : Option Addr) (xc yc xc' yc' : Nat) (hne : (hi != hi') = true) (hne2 : (hi == hi') = false) :
    Calls Try.prog 16 #[.agg #[.int .i64 kind, .int .i64 node, .int .i64 inc, .int .i64 ses, .int .i64 tx, .int .i64 seq, .string key, .int .i64 lo, .int .i64 hi, .bool has, .string data, .bool hit, .int .i64 err, .int .i64 n, .slice wp NW xc, .slice kp NK yc], .agg #[.int .i64 kind, .int .i64 node, .int .i64 inc, .int .i64 ses, .int .i64 tx, .int .i64 seq, .string key, .int .i64 lo, .int .i64 hi', .bool has', .string data', .bool hit', .int .i64 err', .int .i64 n', .slice wp' NW' xc', .slice kp' NK' yc']] w (RetF w) := by
  obtain ⟨A, hA⟩ : ∃ A : Array Value, A = #[.int .i64 kind, .int .i64 node, .int .i64 inc, .int .i64 ses, .int .i64 tx, .int .i64 seq, .string key, .int .i64 lo, .int .i64 hi, .bool has, .string data, .bool hit, .int .i64 err, .int .i64 n, .slice wp NW xc, .slice kp NK yc] := ⟨_, rfl⟩
  obtain ⟨B, hB⟩ : ∃ A : Array Value, A = #[.int .i64 kind, .int .i64 node, .int .i64 inc, .int .i64 ses, .int .i64 tx, .int .i64 seq, .string key, .int .i64 lo, .int .i64 hi', .bool has', .string data', .bool hit', .int .i64 err', .int .i64 n', .slice wp' NW' xc', .slice kp' NK' yc'] := ⟨_, rfl⟩
  rw [← hA, ← hB]
  have HAB := Lib.hid (And.intro hA hB); clear hA hB
  go_enter Try.func16, Try.ntmps16
  go_step
  go_cut [2, 3] (fun s2 s3 W => s2 = .pointer (some ⟨w.heap.size, 0, none⟩) ∧ s3 = .pointer (some ⟨w.heap.size + 1, 0, none⟩) ∧ hp W w.heap.size = some (.cells A 30 (0, 0)) ∧ hp W (w.heap.size+1) = some (.cells B 30 (0, 0)) ∧ Below w.heap.size w W)
  case first =>
    go_wp2
    go_meet
    refine ⟨rfl, rfl, ?_, ?_, (by (repeat (first | (with_reducible exact Below.refl _ _) | (with_reducible refine below_drew ?_) | (with_reducible refine below_alloc ?_ _))))⟩
    · rw [hpA, hpA, size_al, if_neg (by omega), if_pos rfl]
    · rw [hpA, size_al, if_pos rfl]
  case rest =>
  obtain ⟨rfl, rfl, k1, k3, hBW⟩ := hcut
  rename World => w1
  generalize hb1 : w.heap.size = b1 at *
  generalize hb3 : b1 + 1 = b3 at *
  have HBB : Hid (Below b1 w w1) := Lib.hid hBW
  clear hBW
  rw [HAB.out.1] at k1
  rw [HAB.out.2] at k3
  have c1 := hp_cell k1
  have c3 := hp_cell k3
  clear k1 k3
  go_wp2
  go_ret
  exact ⟨rfl, by rw [hb1]; exact HBB.out⟩

end Go.Proofs.Ytiklpifaaogcpaa
