import Derived.Test.YtbndfmkgamdgeaaGreatDoorSO1
import Derived.Test.YtbndfmkgamdgeaaGreatDoorSO2
import Derived.Test.YtbndfmkgamdgeaaGreatDoorSO5
import Derived.Test.YtbndfmkgamdgeaaGreatDoorSO6
import Derived.Test.YtbndfmkgamdgeaaGreatDoorSO8
import Derived.Test.YtbndfmkgamdgeaaGreatDoorSO10
set_option linter.unusedVariables false
set_option linter.unusedSimpArgs false
set_option maxRecDepth 100000
set_option maxHeartbeats 16000000
namespace Go.Proofs.YtbndfmkgamdgeaaGreatDoor
section
open Go.RowKit
section
variable {w w':World} {pw:Nat} {R:Rp} {S:Fs}
theorem body_panic {P:Program} {fn:Func} {R:Ending→World→Prop}:∀ c d v a w,bodyPost P fn R (.panic c) (Act.put a d v) w→bodyPost P fn R (.panic c) a w:=
 fun c d v a w h=>by
  have h':(Act.put a d v).defers=[]∧R (.panicked c) w:=h;exact show a.defers=[]∧R (.panicked c) w from ⟨by rw [←h'.1];cases d <;> rfl,h'.2⟩
theorem touch_any (h:WdAt w pw R S) (dir now:Int) (d:An) (hg:S.get dir=some d) (l:List En) (a:Option Addr) (n c:Nat) (hl:EntsAt w a n c l) :
  Calls Tryz.prog 136 #[.pointer (some ⟨pw,0,none⟩),.int .i64 dir,.int .i64 now,.slice a n c] w fun e w'=>e=.returned (.tuple #[])∧∃ R',WdAt w' pw R' (S.touch now dir l)∧Stp (R.F pw) (R'.F pw) w w':=by
 obtain⟨ea,el,ec,he,hG⟩:=wget_fix h hg;have HG:=Lib.hid (hG w (Below.refl _ _));unfold An.v at HG;have HT:=Lib.hid (show S.touch now dir l=S.set {d with ents:=l,mtime:=now,ctime:=now} by unfold Fs.touch;rw [hg]);have hno:=an_no hg;have HSet:=Lib.hid (fun w1 (hb1:Below w.heap.size w w1)=>(h.keep hb1).setN {d with ents:=l,mtime:=now,ctime:=now} (hl.keep hb1) (b:=d) (by rw [show ({d with ents:=l,mtime:=now,ctime:=now}:An).no=d.no from rfl,hno];exact hg));unfold An.v at HSet;obtain⟨pc,-,pz⟩:=h.blk.facts;have mixed:Tryz.prog.follows .mixedOrders=true:=by kernel_rfl
 clear h hg he hG hno hl;go_enter Tryz.func136,Tryz.ntmps136;go_wp2_with fail;refine HG.out.mono ?_;rintro e w1 ⟨rfl,hb1⟩;have pc0:(w1.alloc (.cells #[.int .i64 d.no,.int .i64 d.dev,.int .i64 d.kind,.int .i64 d.mode,.int .i64 d.uid,.int .i64 d.gid,.int .i64 now,.int .i64 now,.int .i64 d.links,.int .i64 d.up,.string d.data,.slice a n c] 163)).cell? ⟨pw,0,none⟩=_:=((balloc hb1 (.cells #[.int .i64 d.no,.int .i64 d.dev,.int .i64 d.kind,.int .i64 d.mode,.int .i64 d.uid,.int .i64 d.gid,.int .i64 now,.int .i64 now,.int .i64 d.links,.int .i64 d.up,.string d.data,.slice a n c] 163)).cell (p:=⟨pw,0,none⟩) pz).trans (pc 0);have hB:=Blk.new w1 #[.int .i64 d.no,.int .i64 d.dev,.int .i64 d.kind,.int .i64 d.mode,.int .i64 d.uid,.int .i64 d.gid,.int .i64 now,.int .i64 now,.int .i64 d.links,.int .i64 d.up,.string d.data,.slice a n c] 163;have hbX:=balloc hb1 (.cells #[.int .i64 d.no,.int .i64 d.dev,.int .i64 d.kind,.int .i64 d.mode,.int .i64 d.uid,.int .i64 d.gid,.int .i64 now,.int .i64 now,.int .i64 d.links,.int .i64 d.up,.string d.data,.slice a n c] 163);clear pc hb1;go_wp2_with fail;generalize w1.alloc (.cells #[.int .i64 d.no,.int .i64 d.dev,.int .i64 d.kind,.int .i64 d.mode,.int .i64 d.uid,.int .i64 d.gid,.int .i64 now,.int .i64 now,.int .i64 d.links,.int .i64 d.up,.string d.data,.slice a n c] 163)=X at pc0 hB hbX ⊢;obtain⟨bc,-,bz⟩:=hB.facts;have HS:=Lib.hid (HSet.out _ hbX.drew);have HX:=Lib.hid hbX;clear hB hbX;refine wp_region_lex 5 mixed (by kernel_rfl) body_panic ?_;simp only [List.take_succ_cons,List.take_zero,List.drop_succ_cons,List.drop_zero]
 repeat still_step
 refine wpStill_nil ?_;go_wp2_with fail;refine HS.out.mono ?_;rintro e w5 ⟨rfl,R',hR1,hR2,-,-⟩;have HR:=Lib.hid (And.intro hR1 hR2);clear hR1 hR2;go_wp2_with fail
 go_end0
 rw [HT.out];exact⟨rfl,R',HR.out.1,(Stp.of_below HX.out.drew).trans HR.out.2⟩
end
end
end Go.Proofs.YtbndfmkgamdgeaaGreatDoor
