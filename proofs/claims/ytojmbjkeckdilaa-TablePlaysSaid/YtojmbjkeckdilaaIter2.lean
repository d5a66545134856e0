/- slices.Sorted(maps.Keys(t.nodes)) at a table, and at the nil map. -/
import Derived.Test.YtojmbjkeckdilaaIter
namespace Go.Proofs.Ytojmbjkeckdilaa
open Go.RowKit Go.Maps Go.Sort Go.Shelf

set_option maxHeartbeats 1000000 in
theorem sortedT_nil (w : World) :
    CallsIn Fence.wide 5 Try.prog 43 #[.func (.func 47) #[] #[.pointer (some ⟨w.heap.size, 0, none⟩)]] (w.alloc (.cells #[.map none] 70)) fun e w' =>
      e = .returned (.slice none 0 0) ∧ Below (w.alloc (.cells #[.map none] 70)).heap.size (w.alloc (.cells #[.map none] 70)) w' := by
  have hseq : SeqGives Fence.wide 2 Try.prog 47 #[.pointer (some ⟨w.heap.size, 0, none⟩)] encZ (fun ss : List Int => ss = []) 0 (w.alloc (.cells #[.map none] 70)) :=
    AnyZI.keys_gives_nil (ρ := Try.keysT_ren) { Try.keysT with } Fence.wide _ trivial rfl w.heap.size _ (by simp) (by simp)
  have h := AnyZI.sorted_in Try.sortedT Fence.wide 5 trivial trivial trivial trivial rfl (by omega) (sortsT _) (enters_of Try.func46 (by kernel_rfl) rfl) 47 #[.pointer (some ⟨w.heap.size, 0, none⟩)] trivial (enters_of Try.func47 (by kernel_rfl) rfl) _ 0 (Nat.zero_le _) (by omega) _ hseq
  refine CallsIn.mono h ?_
  rintro e w' ⟨v, ss, rfl, rfl, -, hnil, hb⟩
  rw [hnil.2 rfl]
  exact ⟨rfl, hb⟩
end Go.Proofs.Ytojmbjkeckdilaa
