/- slices.Sorted(maps.Keys(m)) over this program's tables: the shelf's contracts, laid. -/
import Derived.Test.YtojmbjkeckdilaaTableD
import Derived.Shelf.SlIterI.Nil
import Derived.Shelf.SortM.Plain
import Derived.Shelf.SortM.SortNone
import Derived.Ground.GgzProg
import Derived.Ground.SlgmProg
namespace Go.Proofs.Ytojmbjkeckdilaa
open Go.RowKit Go.Maps Go.Sort Go.Shelf

shelf_lay_g SlLaysZI.n7 Ggz 7 at Try 44 as Try.keysT
shelf_lay_g SlLaysZI.n6 Ggz 6 at Try 43 as Try.sortedT
shelf_lay_g SlLaysM.n5 Slgm 5 at Try 46 as Try.sortT

theorem sortsT (m : Nat) : AnyZI.SortsIn Try.prog Try.sortedT_ren Fence.wide m :=
  ⟨fun blk off cap ss W hH hblk hsz => callsIn_wide.2 (AnyM.slices_Sort_int Try.sortT blk off cap ss W hH hblk hsz),
   fun p cap W => callsIn_wide.2 (AnyM.slices_Sort_int_none Try.sortT p cap W)⟩

theorem keysT_any (mb : Option Nat) (W : World) : CallsIn Fence.wide 5 Try.prog 44 #[.map mb] W fun e w' => e = .returned (.func (.func 47) #[] #[.pointer (some ⟨W.heap.size, 0, none⟩)]) ∧ w' = W.alloc (.cells #[.map mb] 70) :=
  AnyZI.keys_in Try.keysT Fence.wide 5 trivial rfl mb W
end Go.Proofs.Ytojmbjkeckdilaa
