/- The methods of a table that is none: their contracts. -/
import Derived.Test.YtojmbjkeckdilaaAllA
namespace Go.Proofs.Ytojmbjkeckdilaa
open Go.RowKit Go.Shelf

set_option maxRecDepth 100000 in
set_option maxHeartbeats 400000 in
theorem get_nil (k : Int) (w : World) :
    Calls Try.prog 32 #[.pointer none, .int .i64 k] w fun e w' => e = .returned (.tuple #[nd0.v, .bool false]) ∧ Below w.heap.size w w' := by
  unfold Nd.v nd0
  go_enter Try.func32, Try.ntmps32
  go_wp2
  go_returns
  exact ⟨rfl, by go_grown⟩

set_option maxRecDepth 100000 in
set_option maxHeartbeats 400000 in
theorem get_zero (k : Int) (w : World) (p : Nat) (hb : Blk w p #[.map none, .int .i64 0] 72) :
    Calls Try.prog 32 #[.pointer (some ⟨p, 0, none⟩), .int .i64 k] w fun e w' => e = .returned (.tuple #[nd0.v, .bool false]) ∧ Below w.heap.size w w' := by
  obtain ⟨pc, pf, pz⟩ := hb.facts
  have hr : ∀ w, (Instr.lookup 70 (.map none) (.int .i64 k) true).run Try.prog w = .ok (.tuple #[.agg #[.int .i64 0, .int .i64 0, .int .i64 0, .int .i64 0, .int .i64 0, .int .i64 0, .int .i64 0, .int .i64 0, .int .i64 0, .int .i64 0, .string ByteArray.empty, .slice none 0 0], .bool false]) w := fun w => by
    have hz := zero_node w
    have hk := checkKey_int (P := Try.prog) true Try.underlying3 (.int .i64 k) w
    have hfk := run_findKey (P := Try.prog) (l := []) Try.underlying3 k w
    simp at hfk
    simp [Instr.lookup, run_underlying Try.underlying70, hz, hk, hfk]
    rfl
  unfold Nd.v nd0
  go_enter Try.func32, Try.ntmps32
  go_wp2
  go_returns
  exact ⟨rfl, by go_grown⟩

set_option maxRecDepth 100000 in
set_option maxHeartbeats 400000 in
theorem add_nil (n : Nd) (w : World) :
    Calls Try.prog 13 #[.pointer none, n.v] w fun e w' => e = .returned (.int .i64 0) ∧ Below w.heap.size w w' := by
  unfold Nd.v
  go_enter Try.func13, Try.ntmps13
  go_wp2_with fail
  go_returns
  exact ⟨rfl, by go_grown⟩

set_option maxRecDepth 100000 in
set_option maxHeartbeats 400000 in
theorem add_zero (n : Nd) (w : World) (p : Nat) (hb : Blk w p #[.map none, .int .i64 0] 72) :
    Calls Try.prog 13 #[.pointer (some ⟨p, 0, none⟩), n.v] w fun e w' => e = .returned (.int .i64 0) ∧ Below w.heap.size w w' := by
  obtain ⟨pc, pf, pz⟩ := hb.facts
  have hq : ∀ (w : World) (r : Option Nat), (binOp .eql 70 (.map r) (.map none)).run Try.prog w = .ok (.bool r.isNone) w := fun w r => run_eql_map_nil w _ _ _ r Try.underlying70
  unfold Nd.v
  go_enter Try.func13, Try.ntmps13
  go_wp2_with fail
  go_returns
  exact ⟨rfl, by go_grown⟩

set_option maxRecDepth 100000 in
set_option maxHeartbeats 400000 in
theorem set_nil (n : Nd) (w : World) :
    Calls Try.prog 30 #[.pointer none, n.v] w fun e w' => e = .returned (.bool false) ∧ Below w.heap.size w w' := by
  unfold Nd.v
  go_enter Try.func30, Try.ntmps30
  go_wp2_with fail
  refine (get_nil _ _).mono ?_
  unfold Nd.v nd0
  rintro e w1 ⟨rfl, hb1⟩
  go_wp2_with fail
  go_ret
  exact ⟨rfl, balloc (bnext (balloc (Below.refl _ _) _) hb1) _⟩

set_option maxRecDepth 100000 in
set_option maxHeartbeats 400000 in
theorem set_zero (n : Nd) (w : World) (p : Nat) (hb : Blk w p #[.map none, .int .i64 0] 72) :
    Calls Try.prog 30 #[.pointer (some ⟨p, 0, none⟩), n.v] w fun e w' => e = .returned (.bool false) ∧ Below w.heap.size w w' := by
  unfold Nd.v
  go_enter Try.func30, Try.ntmps30
  go_wp2_with fail
  refine (get_zero _ _ p (hb.old _)).mono ?_
  unfold Nd.v nd0
  rintro e w1 ⟨rfl, hb1⟩
  go_wp2_with fail
  go_ret
  exact ⟨rfl, balloc (bnext (balloc (Below.refl _ _) _) hb1) _⟩

set_option maxRecDepth 100000 in
set_option maxHeartbeats 400000 in
theorem drop_nil (k : Int) (w : World) :
    Calls Try.prog 14 #[.pointer none, .int .i64 k] w fun e w' => e = .returned (.bool false) ∧ Below w.heap.size w w' := by
  go_enter Try.func14, Try.ntmps14
  go_wp2_with fail
  refine (get_nil _ _).mono ?_
  unfold Nd.v nd0
  rintro e w1 ⟨rfl, hb1⟩
  go_wp2_with fail
  go_ret
  exact ⟨rfl, balloc hb1 _⟩

set_option maxRecDepth 100000 in
set_option maxHeartbeats 400000 in
theorem drop_zero (k : Int) (w : World) (p : Nat) (hb : Blk w p #[.map none, .int .i64 0] 72) :
    Calls Try.prog 14 #[.pointer (some ⟨p, 0, none⟩), .int .i64 k] w fun e w' => e = .returned (.bool false) ∧ Below w.heap.size w w' := by
  go_enter Try.func14, Try.ntmps14
  go_wp2_with fail
  refine (get_zero _ _ p hb).mono ?_
  unfold Nd.v nd0
  rintro e w1 ⟨rfl, hb1⟩
  go_wp2_with fail
  go_ret
  exact ⟨rfl, balloc hb1 _⟩

set_option maxHeartbeats 400000 in
theorem len_nil (w : World) :
    Calls Try.prog 35 #[.pointer none] w fun e w' => e = .returned (.int .i64 0) ∧ Below w.heap.size w w' := by
  go_enter Try.func35, Try.ntmps35
  go_wp2_with fail
  go_ret
  exact ⟨rfl, Below.refl _ _⟩

set_option maxHeartbeats 400000 in
theorem len_zero (w : World) (p : Nat) (hb : Blk w p #[.map none, .int .i64 0] 72) :
    Calls Try.prog 35 #[.pointer (some ⟨p, 0, none⟩)] w fun e w' => e = .returned (.int .i64 0) ∧ Below w.heap.size w w' := by
  obtain ⟨pc, pf, pz⟩ := hb.facts
  have hl : ∀ ty w, (Builtin.len_ #[70] ty #[.map none]).run Try.prog w = .ok (.int .i64 0) w := fun ty w => by
    simp [Builtin.len_, run_underlying Try.underlying70]
    rfl
  go_enter Try.func35, Try.ntmps35
  go_wp2_with fail
  go_ret
  exact ⟨rfl, Below.refl _ _⟩
end Go.Proofs.Ytojmbjkeckdilaa
