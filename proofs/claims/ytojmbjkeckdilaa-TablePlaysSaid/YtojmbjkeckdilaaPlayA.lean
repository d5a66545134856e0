/- ragpickerlaw13.at: the place of a number among nodes in memory. -/
import Derived.Test.YtojmbjkeckdilaaNoneC
namespace Go.Proofs.Ytojmbjkeckdilaa
open Go.RowKit Go.Shelf

/-- a node's twelve cells. -/
def ndR (cs : List Value) (n : Nd) : Prop := cs = [.int .i64 n.no, .int .i64 n.dev, .int .i64 n.kind, .int .i64 n.mode, .int .i64 n.uid, .int .i64 n.gid, .int .i64 n.mtime, .int .i64 n.ctime, .int .i64 n.links, .int .i64 n.up, .string n.data, .slice n.ea n.el n.ec]

/-- the place of a number; -1: it is not there. -/
def atV (ns : List Nd) (k : Int) : Int := match ns.findIdx? (fun n => n.no == k) with | some i => i | none => -1

set_option maxRecDepth 100000 in
set_option maxHeartbeats 1000000 in
theorem at_any (a : Option Addr) (len cap : Nat) (ns : List Nd) (no : Int) (w : World) (hz : SliceAt w 12 ndR a len cap ns) :
    Calls Try.prog 29 #[.slice a len cap, .int .i64 no] w fun e w' => e = .returned (.int .i64 (atV ns no)) ∧ Below w.heap.size w w' := by
  have Hxl := Lib.hid hz.1
  have hlen : len ≤ 9223372036854775807 := by obtain ⟨-, h2, h3, -⟩ := hz; omega
  go_enter Try.func29, Try.ntmps29
  go_wp2_with fail
  go_loopg [5] (len + 1) (fun g t4 wr => ∃ k : Nat, g + k = len + 1 ∧ k ≤ len ∧ t4 = .int .i64 k ∧ (∀ j (h : j < ns.length), j < k → ns[j].no ≠ no) ∧ Below w.heap.size w wr)
  case atStart => exact ⟨0, by omega, Nat.zero_le _, rfl, fun j _ h => by omega, Below.refl _ _⟩
  case round =>
    obtain ⟨k, hg, hk, rfl, hne, hB⟩ := hrel
    have Hg := Lib.hid hg
    have Hne := Lib.hid hne
    clear hg hne
    have hz1 := hz.below hB (Nat.le_refl _)
    by_cases hlt : k < len
    · obtain ⟨-, -, -, h | ⟨bb, off, rfl, hbb, hel⟩⟩ := hz1
      · omega
      obtain ⟨cs, -, hcs, hcc⟩ := hel k (by have := Hxl.out; omega)
      unfold ndR at hcs
      have hck0 : wr.cell? ⟨bb, off + k * 12, none⟩ = some (.int .i64 (ns[k]'(by have := Hxl.out; omega)).no) := by
        subst hcs
        exact hcc 0 (by simp)
      clear hcs hcc hel
      have Hat := Lib.hid (show ∀ i, (h : i < ns.length) → ns[i].no = no → (∀ j (h : j < ns.length), j < i → ns[j].no ≠ no) → atV ns no = i from fun i h h1 h2 => by
        unfold atV
        rw [List.findIdx?_eq_some_iff_findIdx_eq.2 ⟨h, by
          rw [List.findIdx_eq h]
          exact ⟨by simpa using h1, fun j hj => by simpa using h2 j (by omega) hj⟩⟩])
      generalize hv : (ns[k]'(by have := Hxl.out; omega)).no = v at hck0
      have Hv := Lib.hid hv
      clear hv
      by_cases he : v = no
      · have he1 : (v == no) = true := by simpa using he
        have He := Lib.hid he
        clear he
        go_wp2_with fail
        go_ret
        exact ⟨by rw [Hat.out k (by have := Hxl.out; omega) (by rw [Hv.out]; exact He.out) Hne.out]; rfl, hB⟩
      · have he1 : (v == no) = false := by simpa using he
        have He := Lib.hid he
        clear he
        go_wp2_with fail
        go_roundg (len + 1 - (k + 1))
        case measure => have := Hg.out; omega
        case rel =>
          refine ⟨k + 1, by have := Hg.out; omega, by omega, by go_num, fun j hj hjk => ?_, hB⟩
          by_cases e : j = k
          · subst e; rw [Hv.out]; exact He.out
          · exact Hne.out j hj (by omega)
    · obtain rfl : k = len := by omega
      have Hat := Lib.hid (show atV ns no = -1 by
        unfold atV
        rw [List.findIdx?_eq_none_iff.2 (fun x hx => by
          obtain ⟨j, hj, rfl⟩ := List.getElem_of_mem hx
          simpa using Hne.out j hj (by have := Hxl.out; omega))])
      go_wp2_with fail
      go_ret
      exact ⟨by rw [Hat.out]; rfl, hB⟩
end Go.Proofs.Ytojmbjkeckdilaa
