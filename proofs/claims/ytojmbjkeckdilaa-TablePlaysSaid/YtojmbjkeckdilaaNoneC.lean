/- TableNone answers true. -/
import Derived.Test.YtojmbjkeckdilaaNoneB
namespace Go.Proofs.Ytojmbjkeckdilaa
open Go.RowKit Go.Shelf

set_option maxRecDepth 100000 in
set_option maxHeartbeats 2000000 in
theorem tableNone_any (n : Nd) (w : World) :
    Calls Try.prog 10 #[n.v] w fun e w' => e = .returned (.bool true) ∧ Below w.heap.size w w' := by
  unfold Nd.v
  go_enter Try.func10, Try.ntmps10
  go_wp2_with fail
  have q0 := Blk.new w #[.int .i64 n.no, .int .i64 n.dev, .int .i64 n.kind, .int .i64 n.mode, .int .i64 n.uid, .int .i64 n.gid, .int .i64 n.mtime, .int .i64 n.ctime, .int .i64 n.links, .int .i64 n.up, .string n.data, .slice n.ea n.el n.ec] 29
  have hB : Below w.heap.size w (w.alloc (.cells #[.int .i64 n.no, .int .i64 n.dev, .int .i64 n.kind, .int .i64 n.mode, .int .i64 n.uid, .int .i64 n.gid, .int .i64 n.mtime, .int .i64 n.ctime, .int .i64 n.links, .int .i64 n.up, .string n.data, .slice n.ea n.el n.ec] 29)) := balloc (Below.refl _ _) _
  generalize w.alloc (.cells #[.int .i64 n.no, .int .i64 n.dev, .int .i64 n.kind, .int .i64 n.mode, .int .i64 n.uid, .int .i64 n.gid, .int .i64 n.mtime, .int .i64 n.ctime, .int .i64 n.links, .int .i64 n.up, .string n.data, .slice n.ea n.el n.ec] 29) = W at q0 hB ⊢
  refine (none_of none _ noTab_nil n W trivial).mono ?_
  rintro e w1 ⟨rfl, hb1⟩
  have b0 := q0.keep hb1
  have hB1 := bnext hB hb1
  obtain ⟨c0, -, z0⟩ := b0.facts
  clear q0 hB hb1
  go_wp2_with fail
  refine (none_of (some ⟨w1.heap.size, 0, none⟩) _ (noTab_zero w1.heap.size) n _ (Blk.new w1 _ _)).mono ?_
  rintro e w2 ⟨rfl, hb2⟩
  go_wp2_with fail
  refine (awake13_any _).mono ?_
  rintro e w3 ⟨rfl, hb3⟩
  go_wp2_with fail
  go_ret
  exact ⟨rfl, bnext (bnext (balloc hB1 _) hb2) hb3⟩
end Go.Proofs.Ytojmbjkeckdilaa
