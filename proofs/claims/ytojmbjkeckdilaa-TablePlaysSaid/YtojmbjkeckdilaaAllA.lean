/- (*table.Table).All and its iterator, where there is nothing. -/
import Derived.Test.YtojmbjkeckdilaaIter2
import Derived.Test.YtojmbjkeckdilaaFreshE
namespace Go.Proofs.Ytojmbjkeckdilaa
open Go.RowKit Go.Shelf
attribute [local go_sem] Oper.semAt_some

set_option maxHeartbeats 400000 in
theorem all_fn (tp : Option Addr) (w : World) :
    Calls Try.prog 39 #[.pointer tp] w fun e w' => e = .returned (.func (.func 42) #[] #[.pointer (some ⟨w.heap.size, 0, none⟩)]) ∧ w.alloc (.cells #[.pointer tp] 23) = w' := by
  have hmf : ∀ (fn : Fn) (first cap : Array Value) (w : World), (Instr.makeFunc fn first cap).run Try.prog w = .ok (.func fn first cap) w := fun _ _ _ _ => rfl
  go_enter Try.func39, Try.ntmps39
  go_wp2
  go_ret
  exact ⟨rfl, rfl⟩

set_option maxRecDepth 100000 in
set_option maxHeartbeats 1000000 in
theorem all_stops_nil (n : Nat) (Bn n₀ : Nat) (w : World) (hb : Blk w Bn #[.pointer none] 23) :
    SeqStopsK Fence.wide n Try.prog 42 #[.pointer (some ⟨Bn, 0, none⟩)] (fun x : Nd => #[x.v]) (Below n₀) (fun xs => xs = []) (fun _ => False) 0 w := fun l J Jx W hW hJ hJx hY h0 => by
  obtain ⟨c0, -, z0⟩ := (hb.keep hW).facts
  clear hb hW
  refine callsIn_of_wp Try.func42 rfl trivial ?_ rfl
  simp only [Try.ntmps42, List.size_toArray, List.length_cons, List.length_nil, Nat.reduceAdd, Nat.reduceSub, Array.replicate_succ, Array.replicate_zero, List.push_toArray, List.append_toArray, List.nil_append, List.cons_append]
  gi_wp2
  refine bodyPost_ret (results_none rfl _ _ _) rfl ?_
  exact ⟨⟨_, rfl⟩, h0⟩

set_option maxRecDepth 100000 in
set_option maxHeartbeats 1000000 in
theorem all_stops_zero (n : Nat) (Bn p n₀ : Nat) (w : World) (hb : Blk w Bn #[.pointer (some ⟨p, 0, none⟩)] 23) (ht : Blk w p #[.map none, .int .i64 0] 72) :
    SeqStopsK Fence.wide n Try.prog 42 #[.pointer (some ⟨Bn, 0, none⟩)] (fun x : Nd => #[x.v]) (Below n₀) (fun xs => xs = []) (fun _ => False) 0 w := fun l J Jx W hW hJ hJx hY h0 => by
  obtain ⟨c0, -, z0⟩ := (hb.keep hW).facts
  obtain ⟨c1, -, z1⟩ := (ht.keep hW).facts
  clear hb hW ht
  refine callsIn_of_wp Try.func42 rfl trivial ?_ rfl
  simp only [Try.ntmps42, List.size_toArray, List.length_cons, List.length_nil, Nat.reduceAdd, Nat.reduceSub, Array.replicate_succ, Array.replicate_zero, List.push_toArray, List.append_toArray, List.nil_append, List.cons_append]
  gi_wp2
  refine ⟨trivial, by simp [Fence.wide], ?_⟩
  refine (callsIn_wide.2 (callsIn_wide.1 (keysT_any none W))).mono ?_
  rintro e w1 ⟨rfl, rfl⟩
  gi_wp2
  refine ⟨trivial, by simp [Fence.wide], ?_⟩
  refine (callsIn_wide.2 (callsIn_wide.1 (sortedT_nil W))).mono ?_
  rintro e w2 ⟨rfl, hb2⟩
  have hJ2 : J [] w2 := hJ _ _ _ none h0 (grown_none (bnext ((Below.refl _ _).alloc (Nat.le_refl _) _) hb2)) (fun r e => by cases e)
  gi_wp2
  refine wpIn_loop_rounds 1 ?_
  rw [roundsIn_succ]
  gi_wp2
  go_end0
  exact ⟨⟨_, rfl⟩, .inl ⟨_, rfl, hJ2⟩⟩
end Go.Proofs.Ytojmbjkeckdilaa
