import Derived.Test.YtbndfmkgamdgeaaGreatDoorSO1
set_option linter.unusedVariables false
set_option linter.unusedSimpArgs false
set_option maxRecDepth 100000
set_option maxHeartbeats 16000000
namespace Go.Proofs.YtbndfmkgamdgeaaGreatDoor
section
open Go.RowKit
def limB (b n:Int):Bool:=decide (1≤b∧b≤1073741824∧1≤n∧n≤65536)
theorem lim_mk (b n:Int) (h1:1≤b) (h2:b≤1073741824) (h3:1≤n) (h4:n≤65536):limB b n=true:=by
 unfold limB;simp [h1,h2,h3,h4]
theorem lim_of {b n:Int} (h:limB b n=true):1≤b∧b≤1073741824∧1≤n∧n≤65536:=by
 unfold limB at h;simpa using h
theorem new_yes (b n:Int) (h:limB b n=true) (w:World) :
  Calls Tryz.prog 197 #[.int .i64 b,.int .i64 n] w fun e w'=>e=.returned (.tuple #[.agg #[.int .i64 0,.int .i64 0,.int .i64 b,.int .i64 n],.int .i64 0])∧Below w.heap.size w w':=by
 obtain⟨h1,h2,h3,h4⟩:=lim_of h;clear h;go_enter Tryz.func197,Tryz.ntmps197
 go_wp2
 go_returns;exact ⟨rfl,by go_grown⟩
theorem new_no (b n:Int) (h:limB b n=false) (w:World) :
  Calls Tryz.prog 197 #[.int .i64 b,.int .i64 n] w fun e w'=>e=.returned (.tuple #[.agg #[.int .i64 0,.int .i64 0,.int .i64 0,.int .i64 0],.int .i64 3])∧Below w.heap.size w w':=by
 have hd:(decide (b<1) || decide (1073741824<b) || decide (n<1) || decide (65536<n))=true:=by
  unfold limB at h;simp at h ⊢;omega
 have hn:¬ (1≤b∧b≤1073741824∧1≤n∧n≤65536):=by unfold limB at h;simpa using h
 clear h;go_enter Tryz.func197,Tryz.ntmps197
 go_wp2
 all_goals (first | (exfalso;omega) | (go_returns;exact ⟨rfl,by go_grown⟩))
def blkI (kind size:Int):Int:=if kind=1 then 1 else if kind=2∧0<size then (size - 1) / 512+1 else 0
theorem blocks_any (k s:Int) (hs:s≤9223372036854775807) (w:World) :
  Calls Tryz.prog 190 #[.int .i64 k,.int .i64 s] w fun e w'=>e=.returned (.int .i64 (blkI k s))∧w=w':=by
 by_cases h1:k=1
 ·have Hv:=Lib.hid (show blkI k s=1 by unfold blkI;rw [if_pos h1]);subst h1;go_enter Tryz.func190,Tryz.ntmps190
  go_wp2
  go_ret;exact ⟨by rw [Hv.out];rfl,rfl⟩
 ·have e1:(k == 1)=false:=by simpa using h1
  by_cases h2:k=2
  ·subst h2;by_cases h3:0<s
   ·have Hv:=Lib.hid (show blkI 2 s=(s - 1) / 512+1 by unfold blkI;rw [if_neg h1,if_pos ⟨rfl,h3⟩]);go_enter Tryz.func190,Tryz.ntmps190
    go_wp2
    go_ret;exact ⟨by rw [Hv.out];rfl,rfl⟩
   ·have Hv:=Lib.hid (show blkI 2 s=0 by unfold blkI;rw [if_neg h1,if_neg (by omega)]);go_enter Tryz.func190,Tryz.ntmps190
    go_wp2
    go_ret;exact ⟨by rw [Hv.out];rfl,rfl⟩
  ·have e2:(k == 2)=false:=by simpa using h2
   have Hv:=Lib.hid (show blkI k s=0 by unfold blkI;rw [if_neg h1,if_neg (by omega)]);clear h1 h2;go_enter Tryz.func190,Tryz.ntmps190
   go_wp2
   go_ret;exact ⟨by rw [Hv.out];rfl,rfl⟩
end
end Go.Proofs.YtbndfmkgamdgeaaGreatDoor
