/- ragpickerlaw13.Same at one node twice. -/
import Derived.Test.YtojmbjkeckdilaaTableC
import Derived.Test.YtojmbjkeckdilaaFrame2
import Derived.Deep.LoopGhost
namespace Go.Proofs.Ytojmbjkeckdilaa
open Go.RowKit

/-- an entry of a directory: two cells. -/
def entR (cs : List Value) (x : ByteArray × Int) : Prop := cs = [.string x.1, .int .i64 x.2]
/-- the entries of a node read. -/
def EntsOk (w : World) (n : Nd) : Prop := ∃ xs, SliceAt w 2 entR n.ea n.el n.ec xs

set_option maxRecDepth 100000 in
theorem ent_eq (s : ByteArray) (k : Int) (w : World) : (Op.equalIn 10000 80 (.agg #[.string s, .int .i64 k]) (.agg #[.string s, .int .i64 k])).run Try.prog w = .ok true w := by
  have u1 := Try.underlying9
  have u2 := Try.underlying3
  have a1 := Try.isAgg9
  have z1 := Try.sizeOf9
  have a2 := Try.isAgg3
  have z2 := Try.sizeOf3
  have hS : Try.prog.underlying 80 = some (.struct (Try.prog.fieldsOf 80)) := by kernel_rfl
  have hp : Try.prog.stoodInHeld 80 = false := by kernel_rfl
  rw [show (10000 : Nat) = 9999 + 1 from rfl, run_equalIn_agg w 9999 80 _ _ hS hp]
  simp only [Program.fieldsOf, Try.underlying80]
  go_simp

set_option maxRecDepth 100000 in
theorem ent_neq (s : ByteArray) (k : Int) (w : World) : (binOp .neq 80 (.agg #[.string s, .int .i64 k]) (.agg #[.string s, .int .i64 k])).run Try.prog w = .ok (.bool false) w := by
  rw [run_neq_struct, ent_eq]
  rfl

set_option maxRecDepth 100000 in
set_option maxHeartbeats 2000000 in
theorem same_any (n : Nd) (w : World) (he : EntsOk w n) :
    Calls Try.prog 33 #[n.v, n.v] w fun e w' => e = .returned (.bool true) ∧ RowKit.Below w.heap.size w w' := by
  obtain ⟨xs, hz⟩ := he
  have Hxl := Lib.hid hz.1
  have hlen : n.el ≤ 9223372036854775807 := by obtain ⟨-, h2, h3, -⟩ := hz; omega
  have q0 := (Blk.new w #[.int .i64 n.no, .int .i64 n.dev, .int .i64 n.kind, .int .i64 n.mode, .int .i64 n.uid, .int .i64 n.gid, .int .i64 n.mtime, .int .i64 n.ctime, .int .i64 n.links, .int .i64 n.up, .string n.data, .slice n.ea n.el n.ec] 29).old (.cells #[.int .i64 n.no, .int .i64 n.dev, .int .i64 n.kind, .int .i64 n.mode, .int .i64 n.uid, .int .i64 n.gid, .int .i64 n.mtime, .int .i64 n.ctime, .int .i64 n.links, .int .i64 n.up, .string n.data, .slice n.ea n.el n.ec] 29)
  have q1 := Blk.new (w.alloc (.cells #[.int .i64 n.no, .int .i64 n.dev, .int .i64 n.kind, .int .i64 n.mode, .int .i64 n.uid, .int .i64 n.gid, .int .i64 n.mtime, .int .i64 n.ctime, .int .i64 n.links, .int .i64 n.up, .string n.data, .slice n.ea n.el n.ec] 29)) #[.int .i64 n.no, .int .i64 n.dev, .int .i64 n.kind, .int .i64 n.mode, .int .i64 n.uid, .int .i64 n.gid, .int .i64 n.mtime, .int .i64 n.ctime, .int .i64 n.links, .int .i64 n.up, .string n.data, .slice n.ea n.el n.ec] 29
  have hB : RowKit.Below w.heap.size w ((w.alloc (.cells #[.int .i64 n.no, .int .i64 n.dev, .int .i64 n.kind, .int .i64 n.mode, .int .i64 n.uid, .int .i64 n.gid, .int .i64 n.mtime, .int .i64 n.ctime, .int .i64 n.links, .int .i64 n.up, .string n.data, .slice n.ea n.el n.ec] 29)).alloc (.cells #[.int .i64 n.no, .int .i64 n.dev, .int .i64 n.kind, .int .i64 n.mode, .int .i64 n.uid, .int .i64 n.gid, .int .i64 n.mtime, .int .i64 n.ctime, .int .i64 n.links, .int .i64 n.up, .string n.data, .slice n.ea n.el n.ec] 29)) := balloc (balloc (Below.refl _ _) _) _
  have hz1 := hz.below hB (Nat.le_refl _)
  rw [World.size_alloc] at q1
  unfold Nd.v
  go_enter Try.func33, Try.ntmps33
  go_wp2_with fail
  generalize (w.alloc (.cells #[.int .i64 n.no, .int .i64 n.dev, .int .i64 n.kind, .int .i64 n.mode, .int .i64 n.uid, .int .i64 n.gid, .int .i64 n.mtime, .int .i64 n.ctime, .int .i64 n.links, .int .i64 n.up, .string n.data, .slice n.ea n.el n.ec] 29)).alloc (.cells #[.int .i64 n.no, .int .i64 n.dev, .int .i64 n.kind, .int .i64 n.mode, .int .i64 n.uid, .int .i64 n.gid, .int .i64 n.mtime, .int .i64 n.ctime, .int .i64 n.links, .int .i64 n.up, .string n.data, .slice n.ea n.el n.ec] 29) = W at q0 q1 hB hz1 ⊢
  obtain ⟨c0, -, z0⟩ := q0.facts
  obtain ⟨c1, -, z1⟩ := q1.facts
  go_loopg [5] (n.el + 1) (fun g t5 wr => ∃ k : Nat, g + k = n.el + 1 ∧ k ≤ n.el ∧ t5 = .int .i64 k ∧ Blk wr w.heap.size #[.int .i64 n.no, .int .i64 n.dev, .int .i64 n.kind, .int .i64 n.mode, .int .i64 n.uid, .int .i64 n.gid, .int .i64 n.mtime, .int .i64 n.ctime, .int .i64 n.links, .int .i64 n.up, .string n.data, .slice n.ea n.el n.ec] 29 ∧ Blk wr (w.heap.size + 1) #[.int .i64 n.no, .int .i64 n.dev, .int .i64 n.kind, .int .i64 n.mode, .int .i64 n.uid, .int .i64 n.gid, .int .i64 n.mtime, .int .i64 n.ctime, .int .i64 n.links, .int .i64 n.up, .string n.data, .slice n.ea n.el n.ec] 29 ∧ RowKit.Below w.heap.size w wr)
  case atStart => exact ⟨0, by omega, Nat.zero_le _, rfl, q0, q1, hB⟩
  case round =>
    obtain ⟨k, hg, hk, rfl, b0, b1, hB1⟩ := hrel
    have Hg := Lib.hid hg
    clear hg c0 z0 c1 z1 hz1 q0 q1 hB
    obtain ⟨c0, -, z0⟩ := b0.facts
    obtain ⟨c1, -, z1⟩ := b1.facts
    have hz1 := hz.below hB1 (Nat.le_refl _)
    by_cases hlt : k < n.el
    · obtain ⟨-, -, -, h | ⟨bb, off, ha, hbb, hel⟩⟩ := hz1
      · omega
      obtain ⟨cs, -, hcs, hcc⟩ := hel k (by have := Hxl.out; omega)
      unfold entR at hcs
      have hck0 : wr.cell? ⟨bb, off + k * 2, none⟩ = some (.string (xs[k]'(by have := Hxl.out; omega)).1) := by
        subst hcs
        exact hcc 0 (by simp)
      have hck1 : wr.cell? ⟨bb, off + k * 2 + 1, none⟩ = some (.int .i64 (xs[k]'(by have := Hxl.out; omega)).2) := by
        subst hcs
        exact hcc 1 (by simp)
      clear hcs hcc hel
      generalize xs[k]'(by have := Hxl.out; omega) = v at hck0 hck1
      obtain ⟨vs, vk⟩ := v
      have hnq := ent_neq vs vk
      rw [ha] at c0 c1
      have Ha := Lib.hid ha
      clear ha
      go_wp2_with fail
      go_region
      go_wp2_with fail
      go_roundg (n.el + 1 - (k + 1))
      case measure => have := Hg.out; omega
      case rel => exact ⟨k + 1, by have := Hg.out; omega, by omega, by go_num, b0.drew, b1.drew, hB1.drew⟩
    · obtain rfl : k = n.el := by omega
      go_wp2_with fail
      go_ret
      exact ⟨rfl, hB1⟩
end Go.Proofs.Ytojmbjkeckdilaa
