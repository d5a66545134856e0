import Derived.Test.YtbndfmkgamdgeaaGreatDoorSO1
import Derived.Test.YtbndfmkgamdgeaaGreatDoorSO2
import Derived.Test.YtbndfmkgamdgeaaGreatDoorSO5
import Derived.Test.YtbndfmkgamdgeaaGreatDoorSO6
import Derived.Test.YtbndfmkgamdgeaaGreatDoorSO8
import Derived.Test.YtbndfmkgamdgeaaGreatDoorSO19
import Derived.Test.YtbndfmkgamdgeaaGreatDoorSO25
import Derived.Test.YtbndfmkgamdgeaaGreatDoorSO28
import Derived.Test.YtbndfmkgamdgeaaGreatDoorSO29
set_option linter.unusedVariables false
set_option linter.unusedSimpArgs false
set_option maxRecDepth 100000
set_option maxHeartbeats 16000000
namespace Go.Proofs.YtbndfmkgamdgeaaGreatDoor
section
open Go.RowKit
theorem sfind_results {tmps:Array Value} {W:World} {B:Nat} {x:Fd} {e:Int} (hb:Blk W B #[.int .i64 x.dir,.string x.name,.int .i64 x.no,.bool x.slash] 189)
  (h8:tmps.getD 8 undef=.pointer (some ⟨B,0,none⟩)) (h9:tmps.getD 9 undef=.int .i64 e):(results Tryz.f94 tmps).run Tryz.prog W=.ok (.tuple #[x.v,.int .i64 e]) W:=by
 have q0:=hb.cell 0;have q1:=hb.cell 1;have q2:=hb.cell 2;have q3:=hb.cell 3;rw [Array.getD_eq_getD_getElem?] at h8 h9;simp [results,Tryz.results94,go_sem,Fd.v,h8,h9,q0,q1,q2,q3]
section
variable {w w':World} {pf pw:Nat} {R:Rp} {pv:Value} {Y:Sy}
theorem sfind_any (h:SyAt w pf pw R pv Y) {N:Nat} (hk:FsOk Y.fs N) (hN:N≤999999) (hd:Y.dead=false) (c:Cr) (path:ByteArray) (hp:path.size≤100000) (f:Bool) :
  Calls Tryz.prog 94 #[.pointer (some ⟨pf,0,none⟩),.agg #[.int .i64 c.u,.int .i64 c.g],.string path,.bool f] w fun e w'=>e=.returned (.tuple #[(Y.fs.path c path f).1.v,.int .i64 (Y.fs.path c path f).2])∧Below w.heap.size w w':=by
 have hRX:Blk ((w.alloc (.cells #[.int .i64 c.u,.int .i64 c.g] 54)).alloc (.cells #[.int .i64 0,.string ⟨#[]⟩,.int .i64 0,.bool false] 189)) (w.heap.size+1) #[.int .i64 0,.string ⟨#[]⟩,.int .i64 0,.bool false] 189:=by
  have:=Blk.new (w.alloc (.cells #[.int .i64 c.u,.int .i64 c.g] 54)) #[.int .i64 0,.string ⟨#[]⟩,.int .i64 0,.bool false] 189
  rwa [World.size_alloc] at this
 have hCX:=(Blk.new w #[.int .i64 c.u,.int .i64 c.g] 54).old (.cells #[.int .i64 0,.string ⟨#[]⟩,.int .i64 0,.bool false] 189);have hbX:=balloc (balloc (Below.refl w.heap.size w) (.cells #[.int .i64 c.u,.int .i64 c.g] 54)) (.cells #[.int .i64 0,.string ⟨#[]⟩,.int .i64 0,.bool false] 189);have HR:=Lib.hid (fun w1 (hb1:Below w.heap.size w w1)=>sread_any (h.keep hb1));rw [hd] at HR;have HS:=Lib.hid (fun w1 (hb1:Below w.heap.size w w1)=>path_any (h.wd.keep hb1) hk hN c path hp f);obtain⟨pc,-,pz⟩:=h.blk.facts;have HPC:=Lib.hid (fun w1 (hb1:Below w.heap.size w w1)=>show w1.cell? ⟨pf,0,none⟩=some (.pointer (some ⟨pw,0,none⟩)) from (hb1.cell (p:=⟨pf,0,none⟩) pz).trans (pc 0));have mixed:Tryz.prog.follows .mixedOrders=true:=by kernel_rfl
 generalize Y.fs.path c path f=rd at HS ⊢;unfold Fd.v at HS;clear h hk hd pc pz;go_enter Tryz.func94,Tryz.ntmps94;go_wp2_with fail;refine (HR.out _ hbX).mono ?_;rintro e w1 ⟨rfl,rfl⟩;generalize (w.alloc (.cells #[.int .i64 c.u,.int .i64 c.g] 54)).alloc (.cells #[.int .i64 0,.string ⟨#[]⟩,.int .i64 0,.bool false] 189)=W0 at hRX hCX hbX ⊢;have HRX:=Lib.hid hRX;have HBX:=Lib.hid hbX;have pc0:=HPC.out _ hbX;obtain⟨cc,-,cz⟩:=hCX.facts;clear hCX hbX hRX;go_wp2_with fail;refine wp_region_lex 7 mixed (by kernel_rfl) (show PanicOk _ from by repeat (first | exact pk_body | refine pk_then ?_ | refine pk_block ?_ | refine pk_scope ?_)) ?_;simp only [List.take_succ_cons,List.take_zero,List.drop_succ_cons,List.drop_zero]
 repeat still_step
 refine wpStill_nil ?_;go_wp2_with fail;refine (HS.out _ HBX.out.drew).mono ?_;rintro e w1 ⟨rfl,hb1⟩;have hRY:=HRX.out.drew.keep hb1;have HRY:=Lib.hid hRY;have HBY:=Lib.hid (HBX.out.drew.trans (hb1.mono HBX.out.size));obtain⟨rc,rf,rz⟩:=hRY.facts;clear hb1 hRY;go_wp2_with fail;exact bodyPost_ret (sfind_results HRY.out.set4 rfl rfl) rfl ⟨rfl,below_set4 HBY.out (Nat.le_succ _)⟩
structure Calm (Y:Sy):Prop where
 plan:Y.plan=[]
 dead:Y.dead=false
 now:Y.now=0
 c0:0≤Y.count
theorem Calm.change (h:Calm Y):Y.change=({Y with count:=Y.count+1},0):=change_none h.dead (fun x hx=>by rw [h.plan] at hx;cases hx)
theorem Calm.op (h:Calm Y) (g:Fs→Int→Fs×Int×Int):Y.op g=({Y with count:=Y.count+1,fs:=(g Y.fs 0).1},(g Y.fs 0).2):=by
 unfold Sy.op;rw [h.change,h.now];rfl
theorem Calm.opE (h:Calm Y) (g:Fs→Int→Fs×Int):Y.opE g=({Y with count:=Y.count+1,fs:=(g Y.fs 0).1},(g Y.fs 0).2):=by
 unfold Sy.opE;rw [h.change,h.now];rfl
theorem Calm.next (h:Calm Y) (S:Fs):Calm {Y with count:=Y.count+1,fs:=S}:=⟨h.plan,h.dead,h.now,by have:=h.c0;show 0≤Y.count+1;omega⟩
theorem Calm.fs (h:Calm Y) (S:Fs):Calm {Y with fs:=S}:=⟨h.plan,h.dead,h.now,h.c0⟩
def Became (w w':World) (pf pw:Nat) (R:Rp) (pv:Value) (Y:Sy) (S:Fs) (d:Int):Prop:=
 ∃ R' Z,SyAt w' pf pw R' pv Z∧Z.fs=S∧Calm Z∧Z.count≤Y.count+d∧Stp (R.Y pf pw) (R'.Y pf pw) w w'
theorem Became.same (h:SyAt w pf pw R pv Y) (hc:Calm Y) (hb:Below w.heap.size w w'):Became w w' pf pw R pv Y Y.fs 0:=⟨R,Y,h.keep hb,rfl,hc,by omega,Stp.of_below hb⟩
theorem Became.mono {S:Fs} {d d':Int} (h:Became w w' pf pw R pv Y S d) (hd:d≤d'):Became w w' pf pw R pv Y S d':=by
 obtain⟨R',Z,h1,h2,h3,h4,h5⟩:=h;exact⟨R',Z,h1,h2,h3,by omega,h5⟩
theorem Blk.sy {B:Nat} {vs:Array Value} {T:TypeId} (hb:Blk w B vs T) (h:SyAt w pf pw R pv Y) {F':Nat→Prop} (hs:Stp (R.Y pf pw) F' w w') (hT:wdKind (.cells #[] T (0,0))=false) (hT2:T≠100):Blk w' B vs T:=
 hb.mod hs.mod (fun hk=>by
  rcases hk with rfl | hk
  ·have h1:=h.blk;unfold Blk at hb h1;rw [hb] at h1;injection h1 with h1;injection h1 with h1 h2;exact hT2 h2
  ·obtain ⟨o,ho,hd⟩:=h.wd.kind hk;unfold Blk at hb;rw [hb] at ho;injection ho with ho;subst ho;rw [show wdKind (.cells vs T (0,0))=wdKind (.cells #[] T (0,0)) from rfl,hT] at hd
   cases hd)
end
end
end Go.Proofs.YtbndfmkgamdgeaaGreatDoor
