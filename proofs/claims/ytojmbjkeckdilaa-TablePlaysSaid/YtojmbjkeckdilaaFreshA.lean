/- The iterator of fresh.Names: its contract: all names, in order, as far as the loop's body asks. -/
import Derived.Test.YtojmbjkeckdilaaNumC
import Derived.RangeFuncNested
import Derived.RangeFuncBound
import Derived.RangeFuncCalls
import Derived.RangeFuncLeaves
import Derived.Shelf.Abstract
import Derived.Shelf.RegionOpen
import Derived.OwnWalkIn
import Derived.TacticsInMore
import Derived.LoopNIn
import Derived.LoopIn
namespace Go.Proofs.Ytojmbjkeckdilaa
open Go.RowKit Go.Shelf
attribute [local go_sem] Oper.semAt_some

theorem grown_none {w w' : World} (h : Below w.heap.size w w') : w.grownBy w' none := ⟨h.os, h.tape, h.output, h.size, fun k hk _ => h.block k hk⟩
theorem Blk.kept {w w' : World} {B : Nat} {vs : Array Value} {T : TypeId} {row : Option Nat} (h : Blk w B vs T) (hg : w.grownBy w' row) (hr : ∀ r, row = some r → ∃ o : Obj, w.heap[r]? = some o ∧ o.isCells = false) : Blk w' B vs T := by
  refine (hg.block B h.lt ?_).trans h
  intro e
  obtain ⟨o, ho, hc⟩ := hr B e.symm
  unfold Blk at h
  rw [h] at ho
  cases ho
  cases hc

set_option maxRecDepth 100000 in
set_option maxHeartbeats 1000000 in
theorem names_stops (n : Nat) (hn : 1 ≤ n) (Bn n₀ : Nat) (base : ByteArray) (hs : base.size ≤ 9223372036854775807) (w : World) (hB0 : Bn < n₀) (hn0 : n₀ ≤ w.heap.size) (hb : Blk w Bn #[.string base] 9) :
    SeqStopsK Fence.wide n Try.prog 36 #[.pointer (some ⟨Bn, 0, none⟩)] (fun k : Nat => #[.string (nthS base (k + 1))]) (Below n₀) (fun xs => xs = List.range 1000) (fun pre => ∃ m, 0 < m ∧ m ≤ 1000 ∧ pre = List.range m) 1000 w := fun l J Jx W hW hJ hJx hY h0 => by
  have hb1 := hb.keep hW
  have hWn : n₀ ≤ W.heap.size := Nat.le_trans hn0 hW.size
  have Hb1 := Lib.hid hb1
  clear hb hb1 hW
  refine callsIn_of_wp Try.func36 rfl trivial ?_ rfl
  simp only [Try.ntmps36, List.size_toArray, List.length_cons, List.length_nil, Nat.reduceAdd, Nat.reduceSub, Array.replicate_succ, Array.replicate_zero, List.push_toArray, List.append_toArray, List.nil_append, List.cons_append]
  gi_wp2
  gi_loopw [4] (fun t4 wr => ∃ i : Nat, i ≤ 1000 ∧ t4 = .int .i64 i ∧ J (List.range i) wr ∧ Blk wr Bn #[.string base] 9 ∧ W.heap.size ≤ wr.heap.size) (fun t4 _ => 1000 - (intOf t4).toNat)
  case atStart => exact ⟨0, by omega, rfl, h0, Hb1.out, Nat.le_refl _⟩
  case round =>
    obtain ⟨i, hi, rfl, hJs, hbk, hsz⟩ := hrel
    by_cases hlt : i < 1000
    · obtain ⟨hc, -, -⟩ := hbk.facts
      gi_wp2
      refine ⟨trivial, ?_⟩
      refine (callsIn_wide.2 (nth_any base ((i : Int) + 1) wr hs (by omega) (by omega))).mono ?_
      rintro e w1 ⟨rfl, hB1⟩
      have hJ1 : J (List.range i) w1 := hJ _ _ _ none hJs (grown_none hB1) (fun r e => by cases e)
      have hbk1 := hbk.keep hB1
      have hsz1 : W.heap.size ≤ w1.heap.size := Nat.le_trans hsz hB1.size
      obtain ⟨fn, tmps, assign, body, hy, hR⟩ := hY (List.range i) i w1 hJ1 (by rw [List.length_range]; exact hlt)
      clear hc
      gi_wp2
      refine hR.mono ?_
      rintro e W3 (⟨rfl, hJ3, hk3⟩ | ⟨rfl, hJx3⟩)
      · gi_wp2
        go_roundw
        case rel => exact ⟨i + 1, by omega, by go_num, by rw [List.range_succ]; exact hJ3, hbk1.keepB hk3 hB0, Nat.le_trans hsz1 hk3.size⟩
        case measure => simp [intOf]; omega
      · gi_wp2
        refine bodyPost_ret (results_none rfl _ _ _) rfl ?_
        exact ⟨⟨_, rfl⟩, .inr ⟨List.range (i + 1), ⟨i + 1, by omega, by omega, rfl⟩, by rw [List.range_succ]; exact hJx3⟩⟩
    · obtain rfl : i = 1000 := by omega
      gi_wp2
      go_end0
      exact ⟨⟨_, rfl⟩, .inl ⟨_, rfl, hJs⟩⟩
end Go.Proofs.Ytojmbjkeckdilaa
