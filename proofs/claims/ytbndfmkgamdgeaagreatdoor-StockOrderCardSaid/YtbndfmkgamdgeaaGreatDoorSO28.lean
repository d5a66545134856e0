import Derived.Test.YtbndfmkgamdgeaaGreatDoorSO1
import Derived.Test.YtbndfmkgamdgeaaGreatDoorSO2
import Derived.Test.YtbndfmkgamdgeaaGreatDoorSO3
import Derived.Test.YtbndfmkgamdgeaaGreatDoorSO4
import Derived.Test.YtbndfmkgamdgeaaGreatDoorSO5
import Derived.Test.YtbndfmkgamdgeaaGreatDoorSO6
import Derived.Test.YtbndfmkgamdgeaaGreatDoorSO8
import Derived.Test.YtbndfmkgamdgeaaGreatDoorSO9
import Derived.Test.YtbndfmkgamdgeaaGreatDoorSO10
import Derived.Test.YtbndfmkgamdgeaaGreatDoorSO11
import Derived.Test.YtbndfmkgamdgeaaGreatDoorSO13
import Derived.Test.YtbndfmkgamdgeaaGreatDoorSO14
import Derived.Test.YtbndfmkgamdgeaaGreatDoorSO16
import Derived.Test.YtbndfmkgamdgeaaGreatDoorSO17
import Derived.Test.YtbndfmkgamdgeaaGreatDoorSO19
import Derived.Test.YtbndfmkgamdgeaaGreatDoorSO21
import Derived.Test.YtbndfmkgamdgeaaGreatDoorSO23
import Derived.Test.YtbndfmkgamdgeaaGreatDoorSO24
import Derived.Test.YtbndfmkgamdgeaaGreatDoorSO25
import Derived.Test.YtbndfmkgamdgeaaGreatDoorSO26
import Derived.Test.YtbndfmkgamdgeaaGreatDoorSO27
set_option linter.unusedVariables false
set_option linter.unusedSimpArgs false
set_option maxRecDepth 100000
set_option maxHeartbeats 16000000
namespace Go.Proofs.YtbndfmkgamdgeaaGreatDoor
section
open Go.RowKit
theorem change_fs (Y:Sy):Y.change.1.fs=Y.fs∧Y.change.1.now=Y.now∧Y.change.1.plan=Y.plan:=by
 unfold Sy.change
 split
 ·exact ⟨rfl,rfl,rfl⟩
 ·split <;> exact ⟨rfl,rfl,rfl⟩
def Sy.op (Y:Sy) (g:Fs→Int→Fs×Int×Int):Sy×Int×Int:=
 if Y.change.2≠0 then (Y.change.1,0,Y.change.2) else ({Y.change.1 with fs:=(g Y.fs Y.now).1},(g Y.fs Y.now).2)
def Sy.opE (Y:Sy) (g:Fs→Int→Fs×Int):Sy×Int:=
 if Y.change.2≠0 then (Y.change.1,Y.change.2) else ({Y.change.1 with fs:=(g Y.fs Y.now).1},(g Y.fs Y.now).2)
section
variable {w w':World} {pf pw:Nat} {R:Rp} {pv:Value} {Y:Sy}
theorem smkdir_any (h:SyAt w pf pw R pv Y) {N:Nat} (hk:FsOk Y.fs N) (hN:N≤999999) (hc:0≤Y.count∧Y.count≤4611686018427387904) (hl:Y.plan.length≤1000000) (c:Cr) (dir:Int) (s:ByteArray) (mode:Int) (hs:s.size≤9223372036854775807) :
  Calls Tryz.prog 29 #[.pointer (some ⟨pf,0,none⟩),.agg #[.int .i64 c.u,.int .i64 c.g],.int .i64 dir,.string s,.int .i64 mode] w fun e w'=>
   e=.returned (.tuple #[.int .i64 (Y.op (fun S now=>S.mkdir c now dir s mode)).2.1,.int .i64 (Y.op (fun S now=>S.mkdir c now dir s mode)).2.2])∧∃ R',SyAt w' pf pw R' pv (Y.op (fun S now=>S.mkdir c now dir s mode)).1∧Stp (R.Y pf pw) (R'.Y pf pw) w w':=by
 have HY:=Lib.hid h;have HC:=Lib.hid (change_any (h.keep ((Below.refl _ w).alloc (Nat.le_refl _) (.cells #[.int .i64 c.u,.int .i64 c.g] 54))) hc hl);obtain⟨hf1,hf2,hf3⟩:=change_fs Y;have HF:=Lib.hid (And.intro hf1 hf2);have hpf:=h.blk.lt;have hk1:FsOk Y.change.1.fs N:=by rw [hf1];exact hk
 have mixed:Tryz.prog.follows .mixedOrders=true:=by kernel_rfl
 clear h hk hf1 hf2 hf3;go_enter Tryz.func29,Tryz.ntmps29;go_wp2_with fail;refine HC.out.mono ?_;rintro e w1 ⟨rfl,hY1,hm1⟩;have HS1:=Lib.hid ((stpY (Stp.of_below (F:=R.F pw) (balloc (Below.refl w.heap.size w) (.cells #[.int .i64 c.u,.int .i64 c.g] 54)))).trans (stpF (pw:=pw) (R:=R) hm1));by_cases h0:Y.change.2=0
 ·have h0b:(Y.change.2 == 0)=true:=by simpa using h0
  have HE:=Lib.hid (show Y.op (fun S now=>S.mkdir c now dir s mode)=_ from if_neg (by simp [h0]));have hcr:=(Blk.new w #[.int .i64 c.u,.int .i64 c.g] 54).mod hm1 (by omega);obtain⟨cc,-,cz⟩:=hcr.facts;obtain⟨pc,-,pz⟩:=hY1.blk.facts;have HD:=Lib.hid (dir_any (hY1.wd.keep (Below.refl _ w1).drew) hk1 hN c Y.change.1.now dir s hs mode);have HY1:=Lib.hid hY1;clear h0 hcr hY1 hm1;go_wp2_with fail;refine wp_region_lex 12 mixed (by kernel_rfl) (show PanicOk _ from by repeat (first | exact pk_body | refine pk_then ?_ | refine pk_block ?_ | refine pk_scope ?_)) ?_;simp only [List.take_succ_cons,List.take_zero,List.drop_succ_cons,List.drop_zero]
  repeat still_step
  refine wpStill_nil ?_;go_wp2_with fail;refine HD.out.mono ?_;rintro e w5 ⟨rfl,R5,hR5,hS5⟩;have HY5:=Lib.hid ((HY1.out.keep (Below.refl _ w1).drew).step hR5 hS5);have HS5:=Lib.hid ((HS1.out.trans (stpY (Stp.of_below (F:=R.F pw) (Below.refl _ w1).drew))).trans (stpY hS5));clear hR5 hS5;go_wp2_with fail;go_ret2;rw [HE.out,HF.out.1.symm,HF.out.2.symm];exact⟨rfl,R5,HY5.out,HS5.out⟩
 ·have h0b:(Y.change.2 == 0)=false:=by simpa using h0
  have HE:=Lib.hid (show Y.op (fun S now=>S.mkdir c now dir s mode)=_ from if_pos h0);have HY1:=Lib.hid hY1;clear hY1 h0 hm1;generalize Y.change.2=ce at HE h0b ⊢;go_wp2_with fail;go_ret2;rw [HE.out];exact⟨rfl,R,HY1.out,HS1.out⟩
theorem screate_any (h:SyAt w pf pw R pv Y) {N:Nat} (hk:FsOk Y.fs N) (hN:N≤999999) (hc:0≤Y.count∧Y.count≤4611686018427387904) (hl:Y.plan.length≤1000000) (c:Cr) (dir:Int) (s:ByteArray) (mode:Int) (data:ByteArray) (hs:s.size≤9223372036854775807) (hdata:data.size≤9223372036854775807) :
  Calls Tryz.prog 15 #[.pointer (some ⟨pf,0,none⟩),.agg #[.int .i64 c.u,.int .i64 c.g],.int .i64 dir,.string s,.int .i64 mode,.string data] w fun e w'=>
   e=.returned (.tuple #[.int .i64 (Y.op (fun S now=>S.file c now dir s mode data)).2.1,.int .i64 (Y.op (fun S now=>S.file c now dir s mode data)).2.2])∧∃ R',SyAt w' pf pw R' pv (Y.op (fun S now=>S.file c now dir s mode data)).1∧Stp (R.Y pf pw) (R'.Y pf pw) w w':=by
 have HY:=Lib.hid h;have HC:=Lib.hid (change_any (h.keep ((Below.refl _ w).alloc (Nat.le_refl _) (.cells #[.int .i64 c.u,.int .i64 c.g] 54))) hc hl);obtain⟨hf1,hf2,hf3⟩:=change_fs Y;have HF:=Lib.hid (And.intro hf1 hf2);have hpf:=h.blk.lt;have hk1:FsOk Y.change.1.fs N:=by rw [hf1];exact hk
 have mixed:Tryz.prog.follows .mixedOrders=true:=by kernel_rfl
 clear h hk hf1 hf2 hf3;go_enter Tryz.func15,Tryz.ntmps15;go_wp2_with fail;refine HC.out.mono ?_;rintro e w1 ⟨rfl,hY1,hm1⟩;have HS1:=Lib.hid ((stpY (Stp.of_below (F:=R.F pw) (balloc (Below.refl w.heap.size w) (.cells #[.int .i64 c.u,.int .i64 c.g] 54)))).trans (stpF (pw:=pw) (R:=R) hm1));by_cases h0:Y.change.2=0
 ·have h0b:(Y.change.2 == 0)=true:=by simpa using h0
  have HE:=Lib.hid (show Y.op (fun S now=>S.file c now dir s mode data)=_ from if_neg (by simp [h0]));have hcr:=(Blk.new w #[.int .i64 c.u,.int .i64 c.g] 54).mod hm1 (by omega);obtain⟨cc,-,cz⟩:=hcr.facts;obtain⟨pc,-,pz⟩:=hY1.blk.facts;have HD:=Lib.hid (file_any (hY1.wd.keep (Below.refl _ w1).drew) hk1 hN c Y.change.1.now dir s hs mode data hdata);have HY1:=Lib.hid hY1;clear h0 hcr hY1 hm1;go_wp2_with fail;refine wp_region_lex 13 mixed (by kernel_rfl) (show PanicOk _ from by repeat (first | exact pk_body | refine pk_then ?_ | refine pk_block ?_ | refine pk_scope ?_)) ?_;simp only [List.take_succ_cons,List.take_zero,List.drop_succ_cons,List.drop_zero]
  repeat still_step
  refine wpStill_nil ?_;go_wp2_with fail;refine HD.out.mono ?_;rintro e w5 ⟨rfl,R5,hR5,hS5⟩;have HY5:=Lib.hid ((HY1.out.keep (Below.refl _ w1).drew).step hR5 hS5);have HS5:=Lib.hid ((HS1.out.trans (stpY (Stp.of_below (F:=R.F pw) (Below.refl _ w1).drew))).trans (stpY hS5));clear hR5 hS5;go_wp2_with fail;go_ret2;rw [HE.out,HF.out.1.symm,HF.out.2.symm];exact⟨rfl,R5,HY5.out,HS5.out⟩
 ·have h0b:(Y.change.2 == 0)=false:=by simpa using h0
  have HE:=Lib.hid (show Y.op (fun S now=>S.file c now dir s mode data)=_ from if_pos h0);have HY1:=Lib.hid hY1;clear hY1 h0 hm1;generalize Y.change.2=ce at HE h0b ⊢;go_wp2_with fail;go_ret2;rw [HE.out];exact⟨rfl,R,HY1.out,HS1.out⟩
theorem ssym_any (h:SyAt w pf pw R pv Y) {N:Nat} (hk:FsOk Y.fs N) (hN:N≤999999) (hc:0≤Y.count∧Y.count≤4611686018427387904) (hl:Y.plan.length≤1000000) (c:Cr) (dir:Int) (s:ByteArray) (text:ByteArray) (hs:s.size≤9223372036854775807) (htext:text.size≤9223372036854775807) :
  Calls Tryz.prog 96 #[.pointer (some ⟨pf,0,none⟩),.agg #[.int .i64 c.u,.int .i64 c.g],.int .i64 dir,.string s,.string text] w fun e w'=>
   e=.returned (.tuple #[.int .i64 (Y.op (fun S now=>S.sym c now dir s text)).2.1,.int .i64 (Y.op (fun S now=>S.sym c now dir s text)).2.2])∧∃ R',SyAt w' pf pw R' pv (Y.op (fun S now=>S.sym c now dir s text)).1∧Stp (R.Y pf pw) (R'.Y pf pw) w w':=by
 have HY:=Lib.hid h;have HC:=Lib.hid (change_any (h.keep ((Below.refl _ w).alloc (Nat.le_refl _) (.cells #[.int .i64 c.u,.int .i64 c.g] 54))) hc hl);obtain⟨hf1,hf2,hf3⟩:=change_fs Y;have HF:=Lib.hid (And.intro hf1 hf2);have hpf:=h.blk.lt;have hk1:FsOk Y.change.1.fs N:=by rw [hf1];exact hk
 have mixed:Tryz.prog.follows .mixedOrders=true:=by kernel_rfl
 clear h hk hf1 hf2 hf3;go_enter Tryz.func96,Tryz.ntmps96;go_wp2_with fail;refine HC.out.mono ?_;rintro e w1 ⟨rfl,hY1,hm1⟩;have HS1:=Lib.hid ((stpY (Stp.of_below (F:=R.F pw) (balloc (Below.refl w.heap.size w) (.cells #[.int .i64 c.u,.int .i64 c.g] 54)))).trans (stpF (pw:=pw) (R:=R) hm1));by_cases h0:Y.change.2=0
 ·have h0b:(Y.change.2 == 0)=true:=by simpa using h0
  have HE:=Lib.hid (show Y.op (fun S now=>S.sym c now dir s text)=_ from if_neg (by simp [h0]));have hcr:=(Blk.new w #[.int .i64 c.u,.int .i64 c.g] 54).mod hm1 (by omega);obtain⟨cc,-,cz⟩:=hcr.facts;obtain⟨pc,-,pz⟩:=hY1.blk.facts;have HD:=Lib.hid (sym_any (hY1.wd.keep (Below.refl _ w1).drew) hk1 hN c Y.change.1.now dir s hs text htext);have HY1:=Lib.hid hY1;clear h0 hcr hY1 hm1;go_wp2_with fail;refine wp_region_lex 12 mixed (by kernel_rfl) (show PanicOk _ from by repeat (first | exact pk_body | refine pk_then ?_ | refine pk_block ?_ | refine pk_scope ?_)) ?_;simp only [List.take_succ_cons,List.take_zero,List.drop_succ_cons,List.drop_zero]
  repeat still_step
  refine wpStill_nil ?_;go_wp2_with fail;refine HD.out.mono ?_;rintro e w5 ⟨rfl,R5,hR5,hS5⟩;have HY5:=Lib.hid ((HY1.out.keep (Below.refl _ w1).drew).step hR5 hS5);have HS5:=Lib.hid ((HS1.out.trans (stpY (Stp.of_below (F:=R.F pw) (Below.refl _ w1).drew))).trans (stpY hS5));clear hR5 hS5;go_wp2_with fail;go_ret2;rw [HE.out,HF.out.1.symm,HF.out.2.symm];exact⟨rfl,R5,HY5.out,HS5.out⟩
 ·have h0b:(Y.change.2 == 0)=false:=by simpa using h0
  have HE:=Lib.hid (show Y.op (fun S now=>S.sym c now dir s text)=_ from if_pos h0);have HY1:=Lib.hid hY1;clear hY1 h0 hm1;generalize Y.change.2=ce at HE h0b ⊢;go_wp2_with fail;go_ret2;rw [HE.out];exact⟨rfl,R,HY1.out,HS1.out⟩
theorem slink_any (h:SyAt w pf pw R pv Y) {N:Nat} (hk:FsOk Y.fs N) (hN:N≤999999) (hc:0≤Y.count∧Y.count≤4611686018427387904) (hl:Y.plan.length≤1000000) (c:Cr) (no:Int) (dir:Int) (s:ByteArray) (hs:s.size≤9223372036854775807) :
  Calls Tryz.prog 97 #[.pointer (some ⟨pf,0,none⟩),.agg #[.int .i64 c.u,.int .i64 c.g],.int .i64 no,.int .i64 dir,.string s] w fun e w'=>
   e=.returned (.int .i64 (Y.opE (fun S now=>S.hard c now no dir s)).2)∧∃ R',SyAt w' pf pw R' pv (Y.opE (fun S now=>S.hard c now no dir s)).1∧Stp (R.Y pf pw) (R'.Y pf pw) w w':=by
 have HY:=Lib.hid h;have HC:=Lib.hid (change_any (h.keep ((Below.refl _ w).alloc (Nat.le_refl _) (.cells #[.int .i64 c.u,.int .i64 c.g] 54))) hc hl);obtain⟨hf1,hf2,hf3⟩:=change_fs Y;have HF:=Lib.hid (And.intro hf1 hf2);have hpf:=h.blk.lt;have hk1:FsOk Y.change.1.fs N:=by rw [hf1];exact hk
 have mixed:Tryz.prog.follows .mixedOrders=true:=by kernel_rfl
 clear h hk hf1 hf2 hf3;go_enter Tryz.func97,Tryz.ntmps97;go_wp2_with fail;refine HC.out.mono ?_;rintro e w1 ⟨rfl,hY1,hm1⟩;have HS1:=Lib.hid ((stpY (Stp.of_below (F:=R.F pw) (balloc (Below.refl w.heap.size w) (.cells #[.int .i64 c.u,.int .i64 c.g] 54)))).trans (stpF (pw:=pw) (R:=R) hm1));by_cases h0:Y.change.2=0
 ·have h0b:(Y.change.2 == 0)=true:=by simpa using h0
  have HE:=Lib.hid (show Y.opE (fun S now=>S.hard c now no dir s)=_ from if_neg (by simp [h0]));have hcr:=(Blk.new w #[.int .i64 c.u,.int .i64 c.g] 54).mod hm1 (by omega);obtain⟨cc,-,cz⟩:=hcr.facts;obtain⟨pc,-,pz⟩:=hY1.blk.facts;have HD:=Lib.hid (hard_any (hY1.wd.keep (Below.refl _ w1).drew) hk1 hN c Y.change.1.now no dir s hs);have HY1:=Lib.hid hY1;clear h0 hcr hY1 hm1;go_wp2_with fail;refine wp_region_lex 12 mixed (by kernel_rfl) (show PanicOk _ from by repeat (first | exact pk_body | refine pk_then ?_ | refine pk_block ?_ | refine pk_scope ?_)) ?_;simp only [List.take_succ_cons,List.take_zero,List.drop_succ_cons,List.drop_zero]
  repeat still_step
  refine wpStill_nil ?_;go_wp2_with fail;refine HD.out.mono ?_;rintro e w5 ⟨rfl,R5,hR5,hS5⟩;have HY5:=Lib.hid ((HY1.out.keep (Below.refl _ w1).drew).step hR5 hS5);have HS5:=Lib.hid ((HS1.out.trans (stpY (Stp.of_below (F:=R.F pw) (Below.refl _ w1).drew))).trans (stpY hS5));clear hR5 hS5;go_wp2_with fail;go_ret;rw [HE.out,HF.out.1.symm,HF.out.2.symm];exact⟨rfl,R5,HY5.out,HS5.out⟩
 ·have h0b:(Y.change.2 == 0)=false:=by simpa using h0
  have HE:=Lib.hid (show Y.opE (fun S now=>S.hard c now no dir s)=_ from if_pos h0);have HY1:=Lib.hid hY1;clear hY1 h0 hm1;generalize Y.change.2=ce at HE h0b ⊢;go_wp2_with fail;go_ret;rw [HE.out];exact⟨rfl,R,HY1.out,HS1.out⟩
theorem schmod_any (h:SyAt w pf pw R pv Y) {N:Nat} (hk:FsOk Y.fs N) (hN:N≤999999) (hc:0≤Y.count∧Y.count≤4611686018427387904) (hl:Y.plan.length≤1000000) (c:Cr) (no:Int) (mode:Int)  :
  Calls Tryz.prog 51 #[.pointer (some ⟨pf,0,none⟩),.agg #[.int .i64 c.u,.int .i64 c.g],.int .i64 no,.int .i64 mode] w fun e w'=>
   e=.returned (.int .i64 (Y.opE (fun S now=>S.chmod c now no mode)).2)∧∃ R',SyAt w' pf pw R' pv (Y.opE (fun S now=>S.chmod c now no mode)).1∧Stp (R.Y pf pw) (R'.Y pf pw) w w':=by
 have HY:=Lib.hid h;have HC:=Lib.hid (change_any (h.keep ((Below.refl _ w).alloc (Nat.le_refl _) (.cells #[.int .i64 c.u,.int .i64 c.g] 54))) hc hl);obtain⟨hf1,hf2,hf3⟩:=change_fs Y;have HF:=Lib.hid (And.intro hf1 hf2);have hpf:=h.blk.lt;have hk1:FsOk Y.change.1.fs N:=by rw [hf1];exact hk
 have mixed:Tryz.prog.follows .mixedOrders=true:=by kernel_rfl
 clear h hk hf1 hf2 hf3;go_enter Tryz.func51,Tryz.ntmps51;go_wp2_with fail;refine HC.out.mono ?_;rintro e w1 ⟨rfl,hY1,hm1⟩;have HS1:=Lib.hid ((stpY (Stp.of_below (F:=R.F pw) (balloc (Below.refl w.heap.size w) (.cells #[.int .i64 c.u,.int .i64 c.g] 54)))).trans (stpF (pw:=pw) (R:=R) hm1));by_cases h0:Y.change.2=0
 ·have h0b:(Y.change.2 == 0)=true:=by simpa using h0
  have HE:=Lib.hid (show Y.opE (fun S now=>S.chmod c now no mode)=_ from if_neg (by simp [h0]));have hcr:=(Blk.new w #[.int .i64 c.u,.int .i64 c.g] 54).mod hm1 (by omega);obtain⟨cc,-,cz⟩:=hcr.facts;obtain⟨pc,-,pz⟩:=hY1.blk.facts;have HD:=Lib.hid (mode_any (hY1.wd.keep (Below.refl _ w1).drew) hk1 c Y.change.1.now no mode);have HY1:=Lib.hid hY1;clear h0 hcr hY1 hm1;go_wp2_with fail;refine wp_region_lex 11 mixed (by kernel_rfl) (show PanicOk _ from by repeat (first | exact pk_body | refine pk_then ?_ | refine pk_block ?_ | refine pk_scope ?_)) ?_;simp only [List.take_succ_cons,List.take_zero,List.drop_succ_cons,List.drop_zero]
  repeat still_step
  refine wpStill_nil ?_;go_wp2_with fail;refine HD.out.mono ?_;rintro e w5 ⟨rfl,R5,hR5,hS5⟩;have HY5:=Lib.hid ((HY1.out.keep (Below.refl _ w1).drew).step hR5 hS5);have HS5:=Lib.hid ((HS1.out.trans (stpY (Stp.of_below (F:=R.F pw) (Below.refl _ w1).drew))).trans (stpY hS5));clear hR5 hS5;go_wp2_with fail;go_ret;rw [HE.out,HF.out.1.symm,HF.out.2.symm];exact⟨rfl,R5,HY5.out,HS5.out⟩
 ·have h0b:(Y.change.2 == 0)=false:=by simpa using h0
  have HE:=Lib.hid (show Y.opE (fun S now=>S.chmod c now no mode)=_ from if_pos h0);have HY1:=Lib.hid hY1;clear hY1 h0 hm1;generalize Y.change.2=ce at HE h0b ⊢;go_wp2_with fail;go_ret;rw [HE.out];exact⟨rfl,R,HY1.out,HS1.out⟩
theorem schown_any (h:SyAt w pf pw R pv Y) {N:Nat} (hk:FsOk Y.fs N) (hN:N≤999999) (hc:0≤Y.count∧Y.count≤4611686018427387904) (hl:Y.plan.length≤1000000) (c:Cr) (no:Int) (uid:Int) (gid:Int)  :
  Calls Tryz.prog 50 #[.pointer (some ⟨pf,0,none⟩),.agg #[.int .i64 c.u,.int .i64 c.g],.int .i64 no,.int .i64 uid,.int .i64 gid] w fun e w'=>
   e=.returned (.int .i64 (Y.opE (fun S now=>S.chown c now no uid gid)).2)∧∃ R',SyAt w' pf pw R' pv (Y.opE (fun S now=>S.chown c now no uid gid)).1∧Stp (R.Y pf pw) (R'.Y pf pw) w w':=by
 have HY:=Lib.hid h;have HC:=Lib.hid (change_any (h.keep ((Below.refl _ w).alloc (Nat.le_refl _) (.cells #[.int .i64 c.u,.int .i64 c.g] 54))) hc hl);obtain⟨hf1,hf2,hf3⟩:=change_fs Y;have HF:=Lib.hid (And.intro hf1 hf2);have hpf:=h.blk.lt;have hk1:FsOk Y.change.1.fs N:=by rw [hf1];exact hk
 have mixed:Tryz.prog.follows .mixedOrders=true:=by kernel_rfl
 clear h hk hf1 hf2 hf3;go_enter Tryz.func50,Tryz.ntmps50;go_wp2_with fail;refine HC.out.mono ?_;rintro e w1 ⟨rfl,hY1,hm1⟩;have HS1:=Lib.hid ((stpY (Stp.of_below (F:=R.F pw) (balloc (Below.refl w.heap.size w) (.cells #[.int .i64 c.u,.int .i64 c.g] 54)))).trans (stpF (pw:=pw) (R:=R) hm1));by_cases h0:Y.change.2=0
 ·have h0b:(Y.change.2 == 0)=true:=by simpa using h0
  have HE:=Lib.hid (show Y.opE (fun S now=>S.chown c now no uid gid)=_ from if_neg (by simp [h0]));have hcr:=(Blk.new w #[.int .i64 c.u,.int .i64 c.g] 54).mod hm1 (by omega);obtain⟨cc,-,cz⟩:=hcr.facts;obtain⟨pc,-,pz⟩:=hY1.blk.facts;have HD:=Lib.hid (owner_any (hY1.wd.keep (Below.refl _ w1).drew) hk1 c Y.change.1.now no uid gid);have HY1:=Lib.hid hY1;clear h0 hcr hY1 hm1;go_wp2_with fail;refine wp_region_lex 12 mixed (by kernel_rfl) (show PanicOk _ from by repeat (first | exact pk_body | refine pk_then ?_ | refine pk_block ?_ | refine pk_scope ?_)) ?_;simp only [List.take_succ_cons,List.take_zero,List.drop_succ_cons,List.drop_zero]
  repeat still_step
  refine wpStill_nil ?_;go_wp2_with fail;refine HD.out.mono ?_;rintro e w5 ⟨rfl,R5,hR5,hS5⟩;have HY5:=Lib.hid ((HY1.out.keep (Below.refl _ w1).drew).step hR5 hS5);have HS5:=Lib.hid ((HS1.out.trans (stpY (Stp.of_below (F:=R.F pw) (Below.refl _ w1).drew))).trans (stpY hS5));clear hR5 hS5;go_wp2_with fail;go_ret;rw [HE.out,HF.out.1.symm,HF.out.2.symm];exact⟨rfl,R5,HY5.out,HS5.out⟩
 ·have h0b:(Y.change.2 == 0)=false:=by simpa using h0
  have HE:=Lib.hid (show Y.opE (fun S now=>S.chown c now no uid gid)=_ from if_pos h0);have HY1:=Lib.hid hY1;clear hY1 h0 hm1;generalize Y.change.2=ce at HE h0b ⊢;go_wp2_with fail;go_ret;rw [HE.out];exact⟨rfl,R,HY1.out,HS1.out⟩
theorem sutime_any (h:SyAt w pf pw R pv Y) {N:Nat} (hk:FsOk Y.fs N) (hN:N≤999999) (hc:0≤Y.count∧Y.count≤4611686018427387904) (hl:Y.plan.length≤1000000) (c:Cr) (no:Int) (t:Int)  :
  Calls Tryz.prog 52 #[.pointer (some ⟨pf,0,none⟩),.agg #[.int .i64 c.u,.int .i64 c.g],.int .i64 no,.int .i64 t] w fun e w'=>
   e=.returned (.int .i64 (Y.opE (fun S now=>S.utime c now no t)).2)∧∃ R',SyAt w' pf pw R' pv (Y.opE (fun S now=>S.utime c now no t)).1∧Stp (R.Y pf pw) (R'.Y pf pw) w w':=by
 have HY:=Lib.hid h;have HC:=Lib.hid (change_any (h.keep ((Below.refl _ w).alloc (Nat.le_refl _) (.cells #[.int .i64 c.u,.int .i64 c.g] 54))) hc hl);obtain⟨hf1,hf2,hf3⟩:=change_fs Y;have HF:=Lib.hid (And.intro hf1 hf2);have hpf:=h.blk.lt;have hk1:FsOk Y.change.1.fs N:=by rw [hf1];exact hk
 have mixed:Tryz.prog.follows .mixedOrders=true:=by kernel_rfl
 clear h hk hf1 hf2 hf3;go_enter Tryz.func52,Tryz.ntmps52;go_wp2_with fail;refine HC.out.mono ?_;rintro e w1 ⟨rfl,hY1,hm1⟩;have HS1:=Lib.hid ((stpY (Stp.of_below (F:=R.F pw) (balloc (Below.refl w.heap.size w) (.cells #[.int .i64 c.u,.int .i64 c.g] 54)))).trans (stpF (pw:=pw) (R:=R) hm1));by_cases h0:Y.change.2=0
 ·have h0b:(Y.change.2 == 0)=true:=by simpa using h0
  have HE:=Lib.hid (show Y.opE (fun S now=>S.utime c now no t)=_ from if_neg (by simp [h0]));have hcr:=(Blk.new w #[.int .i64 c.u,.int .i64 c.g] 54).mod hm1 (by omega);obtain⟨cc,-,cz⟩:=hcr.facts;obtain⟨pc,-,pz⟩:=hY1.blk.facts;have HD:=Lib.hid (time_any (hY1.wd.keep (Below.refl _ w1).drew) hk1 c Y.change.1.now no t);have HY1:=Lib.hid hY1;clear h0 hcr hY1 hm1;go_wp2_with fail;refine wp_region_lex 11 mixed (by kernel_rfl) (show PanicOk _ from by repeat (first | exact pk_body | refine pk_then ?_ | refine pk_block ?_ | refine pk_scope ?_)) ?_;simp only [List.take_succ_cons,List.take_zero,List.drop_succ_cons,List.drop_zero]
  repeat still_step
  refine wpStill_nil ?_;go_wp2_with fail;refine HD.out.mono ?_;rintro e w5 ⟨rfl,R5,hR5,hS5⟩;have HY5:=Lib.hid ((HY1.out.keep (Below.refl _ w1).drew).step hR5 hS5);have HS5:=Lib.hid ((HS1.out.trans (stpY (Stp.of_below (F:=R.F pw) (Below.refl _ w1).drew))).trans (stpY hS5));clear hR5 hS5;go_wp2_with fail;go_ret;rw [HE.out,HF.out.1.symm,HF.out.2.symm];exact⟨rfl,R5,HY5.out,HS5.out⟩
 ·have h0b:(Y.change.2 == 0)=false:=by simpa using h0
  have HE:=Lib.hid (show Y.opE (fun S now=>S.utime c now no t)=_ from if_pos h0);have HY1:=Lib.hid hY1;clear hY1 h0 hm1;generalize Y.change.2=ce at HE h0b ⊢;go_wp2_with fail;go_ret;rw [HE.out];exact⟨rfl,R,HY1.out,HS1.out⟩
end
end
section
open Go.RowKit
theorem own_low {w:World} {base base' sz n:Nat} {e:TypeId} {v:Value} {xs:List Value} (h:w.ownsRow base e sz v n xs) (hb:base'≤base):w.ownsRow base' e sz v n xs:=
 ⟨h.1,h.2.imp id fun ⟨g,cap,cur,hv,hg,rest⟩=>⟨g,cap,cur,hv,Nat.le_trans hb hg,rest⟩⟩
theorem flt_info:(Tryz.prog.info? 161).map (fun i=>(i.zero,i.size,i.bytes))=some (some (.agg #[.int .i64 0,.int .i64 0]),2,16):=by kernel_rfl
theorem slice_cell2 {w:World} {b off n c:Nat} {l:List (Int×Int)} (h:SliceAt w 2 fltR (some ⟨b,off,none⟩) n c l) (j:Nat) (u:Value) (hu:(l.flatMap fltC)[j]? = some u):w.cell? (Addr.add ⟨b,off,none⟩ j)=some u:=by
 obtain⟨hl,-,-,h0 | ⟨b',off',he,hb,hel⟩⟩:=h
 ·rw [show l=[] from List.eq_nil_of_length_eq_zero (by omega)] at hu;simp at hu
 ·injection he with he;injection he with e1 e2;subst e1 e2;have hjl:j<l.length*2:=by
   have:=(List.getElem?_eq_some_iff.1 hu).1
   rwa [flat_len fltC_len] at this
  have hk:j / 2<l.length:=by omega
  obtain⟨cs,h1,h2,h3⟩:=hel (j / 2) hk;unfold fltR at h2;subst h2;have h4:=h3 (j % 2) (by rw [fltC_len];omega);have h5:off+j / 2*2+j % 2=off+j:=by omega
  rw [h5] at h4;have h6:(l.flatMap fltC)[j]? = (fltC l[j / 2])[j % 2]?:=by
   clear h4 h3 hu h1 hel hjl h5 hl hb
   induction l generalizing j with
   | nil=>simp at hk
   | cons x l ih=>
    rw [List.flatMap_cons];by_cases hj:j<2
    ·rw [List.getElem?_append_left (by rw [fltC_len];exact hj)];have e1:j / 2=0:=by omega
     have e2:j % 2=j:=by omega
     simp [e1,e2]
    ·rw [List.getElem?_append_right (by rw [fltC_len];omega),fltC_len];have hk':(j - 2) / 2<l.length:=by simp only [List.length_cons] at hk;omega
     rw [ih (j - 2) hk'];have e1:j / 2=(j - 2) / 2+1:=by omega
     have e2:j % 2=(j - 2) % 2:=by omega
     simp [e1,e2]
  rw [h6,List.getElem?_eq_getElem (by rw [fltC_len];omega)] at hu;injection hu with hu;rw [←hu,←h4];by_cases hz:j=0
  ·subst hz;simp [Addr.add]
  ·simp [Addr.add,hz]
section
variable {w w':World} {pf pw:Nat} {R:Rp} {pv:Value} {Y:Sy}
def sy0 (b n:Int):Sy:=⟨fs0.addRoot 0 b n,0,0,[],false⟩
theorem snew_any (b n:Int) (hlim:limB b n=true) (w:World) :
  Calls Tryz.prog 46 #[.int .i64 b,.int .i64 n] w fun e w'=>∃ pf pw R,e=.returned (.tuple #[.pointer (some ⟨pf,0,none⟩),.int .i64 0])∧SyAt w' pf pw R (.slice none 0 0) (sy0 b n)∧Below w.heap.size w w'∧∀ k,R.Y pf pw k→w.heap.size≤k:=by
 have HN:=Lib.hid (wnew_yes b n hlim w);clear hlim;go_enter Tryz.func46,Tryz.ntmps46;go_wp2_with fail;refine HN.out.mono ?_;rintro e w1 ⟨pw,R,rfl,hW,hb,hF⟩;have HX:=Lib.hid (And.intro hW (And.intro hb hF));clear hW hb hF;go_wp2_with fail;go_ret2;obtain⟨hW,hb,hF⟩:=HX.out;refine ⟨w1.heap.size,pw,R,rfl,⟨Blk.new _ _ _,hW.keep ((Below.refl _ _).alloc (Nat.le_refl _) _),⟨rfl,.inl ⟨rfl,rfl⟩⟩⟩,balloc hb _,fun k hk=>?_⟩;rcases hk with rfl | hk
 ·exact hb.size
 ·exact hF k hk
theorem flt_app {W:World} {a:Option Addr} {n c:Nat} {l:List (Int×Int)} (hl:SliceAt W 2 fltR a n c l) (hn:l.length≤1000000) :
  ∃ v W',(Builtin.append_ #[34,34] 34 #[.slice none 0 0,.slice a n c]).run Tryz.prog W=.ok v W'∧W'.ownsRow W.heap.size 161 2 v l.length (l.flatMap fltC)∧Below W.heap.size W W':=by
 obtain⟨i0,hi,hz0,hz1,hz2⟩:=info_parts flt_info;have hln:=hl.1;have hnil:W.ownsRow W.heap.size 161 2 (.slice none 0 0) 0 []:=⟨rfl,.inl ⟨rfl,rfl⟩⟩;by_cases h0:n=0
 ·subst h0;rw [show l=[] from List.eq_nil_of_length_eq_zero (by omega)];exact⟨_,W,step_app_nil _ Tryz.underlying34 hi hnil a c,hnil,Below.refl _ _⟩
 ·obtain ⟨b,off,rfl⟩:∃ b off,a=some ⟨b,off,none⟩:=by
   obtain⟨-,-,-,h | ⟨b,off,h,-⟩⟩:=hl
   ·exact absurd h h0
   ·exact ⟨b,off,h⟩
  obtain⟨g,cap,W',h1,h2,h3,h4⟩:=step_app 34 Tryz.underlying34 hi hz0 hz1 hz2 rfl (by omega) hnil ⟨b,off,none⟩ n c (l.flatMap fltC) (by rw [flat_len fltC_len,hln]) (fun j u hu=>slice_cell2 hl j u hu)
   (by intro u hu;obtain ⟨y,-,hy⟩:=List.mem_flatMap.1 hu;simp [fltC] at hy;rcases hy with rfl | rfl <;> rfl) (by omega) (by unfold maxLen;omega) (by omega) (Nat.le_refl _)
  refine ⟨_,W',h1,?_,h3.below (fun k hk=>by cases hk) (Nat.le_refl _)⟩;rw [hln];rw [List.nil_append,Nat.zero_add] at h2;rw [Nat.zero_add];exact h2
theorem splan_any (h:SyAt w pf pw R pv Y) {a:Option Addr} {n c:Nat} {l:List (Int×Int)} (hl:SliceAt w 2 fltR a n c l) (hpa:∀ b off,a=some ⟨b,off,none⟩→b≠pf) (hn:l.length≤1000000) :
  Calls Tryz.prog 63 #[.pointer (some ⟨pf,0,none⟩),.slice a n c] w fun e w'=>e=.returned (.tuple #[])∧∃ pv',SyAt w' pf pw R pv' {Y with count:=0,plan:=l}∧Mod (fun k=>k=pf) w w':=by
 have HN:=Lib.hid (snone_any h);have HY:=Lib.hid h;have hl1:SliceAt (w.setCell ⟨pf,2,none⟩ (.int .i64 0)) 2 fltR a n c l:=by
  refine ⟨hl.1,hl.2.1,hl.2.2.1,hl.2.2.2.imp id ?_⟩;rintro ⟨b,off,rfl,hlt,hel⟩;have hq:=Below.heap_setCell w ⟨pf,2,none⟩ (.int .i64 0) b (hpa b off rfl);refine ⟨b,off,rfl,by simpa [World.setCell] using hlt,fun i hi=>?_⟩;obtain⟨cs,h1,h2,h3⟩:=hel i hi;refine ⟨cs,h1,h2,fun j hj=>?_⟩;rw [←h3 j hj];simp only [World.cell?,hq]
 obtain⟨v,W,hrun,hown,hbW⟩:=flt_app hl1 hn;obtain⟨a1,c1,rfl,-,-,-⟩:=own_form hown;have hB1:=h.blk.set 2 (.int .i64 0);have hBW:=hB1.keep hbW;have HR:=Lib.hid hrun;have HX:=Lib.hid (And.intro hown (And.intro hbW hBW));obtain⟨pc,pf',pz⟩:=h.blk.facts;obtain⟨qc,qf,qz⟩:=hBW.facts;clear h hl hl1 hrun hown hbW hB1 hBW;go_enter Tryz.func63,Tryz.ntmps63;go_wp2_with (first | (go_at_call 64;((with_reducible refine HN.out.mono ?_);rintro e w1 ⟨rfl,rfl⟩)) | (at_builtin;refine wpList_app_run rfl rfl rfl rfl HR.out ?_))
 go_end0
 obtain⟨hown,hbW,hBW⟩:=HX.out;have hm1:=(Mod.refl (fun k=>k=pf) w).setCell (a:=⟨pf,2,none⟩) (.inl rfl) (.int .i64 0);have hm:=(hm1.trans (Mod.of_below hbW)).setCell (a:=⟨pf,3,none⟩) (.inl rfl) (.slice a1 l.length c1);have hlt:pf<(w.setCell ⟨pf,2,none⟩ (.int .i64 0)).heap.size:=by simpa [World.setCell] using HY.out.blk.lt
 refine ⟨rfl,.slice a1 l.length c1,⟨hBW.set 3 _,HY.out.wd.mod hm (fun k o hk ho=>?_),?_⟩,hm⟩
 ·subst hk;have hb:=HY.out.blk;unfold Blk at hb;rw [hb] at ho;injection ho with ho;subst ho;exact⟨rfl,fun cur e=>by cases e⟩
 ·refine own_low (own_mod hown ((Mod.refl (fun k=>k=pf) W).setCell (a:=⟨pf,3,none⟩) (.inl rfl) _) (fun k hk he=>?_)) (Nat.zero_le _);subst hk;have:=(own_obj1 hown he).1;omega
def Sy.wake (Y:Sy):Sy:={Y with count:=0,plan:=[],dead:=false}
theorem swake_any (h:SyAt w pf pw R pv Y) :
  Calls Tryz.prog 53 #[.pointer (some ⟨pf,0,none⟩)] w fun e w'=>e=.returned (.tuple #[])∧∃ pv',SyAt w' pf pw R pv' Y.wake∧Mod (fun k=>k=pf) w w':=by
 have HN:=Lib.hid (snone_any h);have hm1:=(Mod.refl (fun k=>k=pf) w).setCell (a:=⟨pf,4,none⟩) (.inl rfl) (.bool false);have hY1:=h.turnF hm1 (Z:={Y with dead:=false}) rfl rfl (h.blk.set 4 (.bool false));have HP:=Lib.hid (splan_any hY1 (a:=none) (n:=0) (c:=0) (l:=[]) ⟨rfl,Nat.le_refl _,by omega,.inl rfl⟩ (fun b off h=>by cases h) (Nat.zero_le _));have HM:=Lib.hid hm1;obtain⟨pc,pf',pz⟩:=h.blk.facts;clear h hm1 hY1;go_enter Tryz.func53,Tryz.ntmps53;go_wp2_with fail;refine HN.out.mono ?_;rintro e w1 ⟨rfl,rfl⟩;go_wp2_with fail;refine HP.out.mono ?_;rintro e w2 ⟨rfl,pv',hY2,hm2⟩;have HX:=Lib.hid (And.intro hY2 hm2);clear hY2 hm2;go_wp2_with fail
 go_end0
 exact⟨rfl,pv',HX.out.1,HM.out.trans HX.out.2⟩
end
end
section
open Go.RowKit
def tailL (n:Int):List UInt8:=if n<2 then [] else 46 :: decL n
def nthS (base:ByteArray) (n:Int):ByteArray:=base.extract 0 (min base.size (245 - (tailL n).length)) ++ str (tailL n)
end
section
open Go.RowKit
def tilA (base:ByteArray):ByteArray:=base ++ ByteArray.mk #[46,126]
def tilB (base:ByteArray) (n:Int):ByteArray:=tilA base ++ str (decL n) ++ ByteArray.mk #[126]
def IdxOk (base s:ByteArray) (n:Int):Prop:=(base≠ByteArray.empty∧1≤n∧n≤999999999∧tilB base n=s)∨(n=0∧∀ m:Int,base≠ByteArray.empty→1≤m→m≤999999999→tilB base m≠s)
open Classical in
noncomputable def idxB (base s:ByteArray):Int:=if h:∃ n,IdxOk base s n then Classical.choose h else 0
noncomputable def mostB (base:ByteArray):Int→List ByteArray→Int
 | n,[]=>n
 | n,s :: l=>mostB base (max n (idxB base s)) l
def idxR:Option Int→Int
 | some n=>if 1≤n∧n≤999999999 then n else 0
 | none=>0
def tilN (base:ByteArray) (n:Int):ByteArray×Int:=
 if checkE base≠0 then (ByteArray.empty,checkE base) else if n<1∨999999999<n then (ByteArray.empty,3) else if 255<(tilB base n).size then (ByteArray.empty,13) else (tilB base n,0)
def Fs.listF (S:Fs) (d:Bool) (c:Cr) (no:Int):List En×Int:=
 if d=true then ([],20) else if S.openE c no 1 4≠0 then ([],S.openE c no 1 4) else ((S.entsOf no).map (fun e=>⟨e.name,S.over e.no⟩),0)
noncomputable def Fs.spareF (S:Fs) (d:Bool) (c:Cr) (dir:Int) (n:ByteArray):ByteArray×Int:=
 if (S.listF d c dir).2≠0 then (ByteArray.empty,(S.listF d c dir).2) else tilN n (mostB n 0 ((S.listF d c dir).1.map (·.name))+1)
end
section
open Go.RowKit
structure Sp where
 dir:Int
 name:ByteArray
 no:Int
 depth:Int
def Fs.intoF (S:Fs) (c:Cr) (x:Sp):List Sp×Int:=
 if noneE (S.get x.no)≠0 then ([],noneE (S.get x.no)) else if noneE (S.get x.dir)≠0 then ([],noneE (S.get x.dir))
 else if (S.getZ x.no).dev≠(S.getZ x.dir).dev then ([],16) else if (S.getZ x.no).kind≠1 then ([],0)
 else ((S.listF false c x.no).1.map (fun y=>⟨x.no,y.name,y.no,wrap64 (x.depth+1)⟩),(S.listF false c x.no).2)
def Fs.hgt (S:Fs) (k:Int):Nat:=match S.get k with
 | some a=>if a.kind=1 then (S.last - k).toNat+1 else 0
 | none=>0
def Fs.muL (S:Fs) (N:Nat) (l:List Sp):Nat:=(l.map fun x=>(N+1) ^ S.hgt x.no).sum
theorem muL_cons (S:Fs) (N:Nat) (x:Sp) (l:List Sp):S.muL N (x :: l)=(N+1) ^ S.hgt x.no+S.muL N l:=by unfold Fs.muL;rw [List.map_cons,List.sum_cons]
theorem muL_app (S:Fs) (N:Nat) (a b:List Sp):S.muL N (a ++ b)=S.muL N a+S.muL N b:=by unfold Fs.muL;rw [List.map_append,List.sum_append]
theorem muL_le {S:Fs} {N k:Nat}:∀ {l:List Sp},(∀ x∈l,S.hgt x.no≤k)→S.muL N l≤l.length*(N+1) ^ k
 | [],_=>by simp [Fs.muL]
 | x :: l,h=>by
  rw [muL_cons,List.length_cons,Nat.succ_mul];have h1:=muL_le (N:=N) (fun y hy=>h y (List.mem_cons_of_mem _ hy));have h2:(N+1) ^ S.hgt x.no≤(N+1) ^ k:=Nat.pow_le_pow_right (by omega) (h x List.mem_cons_self);omega
theorem hgt_down {S:Fs} {N:Nat} (h:Fine S N) {a:An} (ha:a∈S.ns) {k:Int} (hk:S.get k=some a) (hd:a.kind=1) {e:En} (he:e∈a.ents):S.hgt (S.over e.no)<S.hgt k:=by
 obtain⟨-,hkn,hk1,hkl⟩:=h.ok.get hk;have hK:S.hgt k=(S.last - k).toNat+1:=by unfold Fs.hgt;rw [hk];simp [hd]
 obtain⟨b,hb,hup⟩:=(h.tr.row a ha).down e he;obtain⟨-,hbn,hb1,hbl⟩:=h.ok.get hb;have hlt:b.kind=1→a.no<b.no:=fun hb2=>by
  obtain⟨h1,h2⟩:=hup hb2;rcases h.pl.up b (an_mem hb) hb2 with ⟨h3,-⟩|⟨-,-,h4⟩
  ·exact absurd h3 h2
  ·omega
 unfold Fs.over;by_cases h0:0<e.no
 ·rw [if_pos h0]
  cases hf:S.ds.find? (fun d=>d.over == e.no) with
  | none=>
   show S.hgt e.no<_;unfold Fs.hgt;rw [hb];show (if b.kind=1 then _ else 0)<_
   split
   ·rename_i hb2;have:=hlt hb2;have:=hK;unfold Fs.hgt at this;rw [this];omega
   ·unfold Fs.hgt at hK;rw [hK];omega
  | some d=>
   show S.hgt d.root<_;have hm:=List.mem_of_find?_eq_some hf;have hq:d.over=e.no:=by simpa using List.find?_some hf
   obtain⟨i,hi,hdi⟩:=List.mem_iff_getElem.1 hm;have hi1:1≤i:=by
    rcases Nat.eq_zero_or_pos i with h1 | h1
    ·subst h1;have:=h.tr.zero d (by rw [List.getElem?_eq_getElem hi,hdi]);omega
    ·exact h1
   obtain⟨b2,hb2,hbk,hbr⟩:=h.pl.over i hi hi1;rw [hdi,hq] at hb2;rw [hdi,hq] at hbr;rw [hb] at hb2;injection hb2 with hb2;subst hb2;have h5:=hlt hbk;have h6:S.hgt d.root≤(S.last - d.root).toNat+1:=by
    unfold Fs.hgt
    split
    ·split
     ·exact Nat.le_refl _
     ·exact Nat.zero_le _
    ·exact Nat.zero_le _
   have h7:=(h.ok.root d hm).2;omega
 ·exfalso;omega
theorem into_less {S:Fs} {N:Nat} (h:Fine S N) (c:Cr) (x:Sp) (he:(S.intoF c x).2=0):S.muL N (S.intoF c x).1<(N+1) ^ S.hgt x.no:=by
 have hpos:∀ k,0<(N+1) ^ k:=fun k=>Nat.pow_pos (by omega);have h0:S.muL N []<(N+1) ^ S.hgt x.no:=hpos _;revert he;unfold Fs.intoF
 split
 ·exact fun _=>h0
 split
 ·exact fun _=>h0
 split
 ·exact fun _=>h0
 split
 ·exact fun _=>h0
 ·rename_i hno _ _ hkd;intro _
  cases hg:S.get x.no with
  | none=>rw [hg] at hno;exact absurd (by decide:noneE (none:Option An)≠0) hno
  | some a=>
   have hz:S.getZ x.no=a:=getZ_some hg;rw [hz] at hkd;have hd:a.kind=1:=by simpa using hkd
   unfold Fs.listF;rw [if_neg (by decide)]
   split
   ·exact h0
   ·have hents:S.entsOf x.no=a.ents:=by unfold Fs.entsOf;rw [hg]
    rw [hents];dsimp only;have hK:S.hgt x.no=(S.last - x.no).toNat+1:=by unfold Fs.hgt;rw [hg];simp [hd]
    refine Nat.lt_of_le_of_lt (muL_le (k:=(S.last - x.no).toNat) (fun y hy=>?_)) ?_
    ·obtain ⟨q,hq,rfl⟩:=List.mem_map.1 hy;obtain⟨e,hee,rfl⟩:=List.mem_map.1 hq;have:=hgt_down h (an_mem hg) hg hd hee;show S.hgt (S.over e.no)≤_;omega
    ·rw [List.length_map,List.length_map,hK,Nat.pow_succ];have hfew:=(h.ok.get hg).1.few;have hp:=hpos (S.last - x.no).toNat;have:a.ents.length*(N+1) ^ (S.last - x.no).toNat≤N*(N+1) ^ (S.last - x.no).toNat:=Nat.mul_le_mul_right _ hfew;rw [Nat.mul_add,Nat.mul_one,Nat.mul_comm _ N];omega
def Fs.downL (S:Fs) (c:Cr):Nat→List Sp→List Sp×Option (Sp×Int)
 | 0,_=>([],none)
 | _+1,[]=>([],none)
 | f+1,x :: t=>if (S.intoF c x).2≠0 then ([],some (x,(S.intoF c x).2)) else (x :: (S.downL c f ((S.intoF c x).1 ++ t)).1,(S.downL c f ((S.intoF c x).1 ++ t)).2)
def Fs.walkF (S:Fs) (N:Nat) (d:Bool) (c:Cr) (dir:Int) (n:ByteArray):List Sp×Option (Sp×Int):=
 if (S.lookF d c dir n).2≠0 then ([],some (⟨dir,n,(S.lookF d c dir n).1,0⟩,(S.lookF d c dir n).2))
 else S.downL c (S.muL N [⟨dir,n,(S.lookF d c dir n).1,0⟩]) [⟨dir,n,(S.lookF d c dir n).1,0⟩]
def Fs.heavy (S:Fs):List Int→List Sp→Int
 | _,[]=>0
 | met,x :: l=>if x.no∈met then S.heavy met l else (S.getZ x.no).data.size+S.heavy (x.no :: met) l
def Fs.treeF (S:Fs) (N:Nat) (d:Bool) (c:Cr) (dir:Int) (n:ByteArray):Int×Int:=
 match (S.walkF N d c dir n).2 with
 | some (_,e)=>(0,e)
 | none=>(S.heavy [] (S.walkF N d c dir n).1,0)
end
section
open Go.RowKit
def Goes (w w':World) (pf pw:Nat) (R:Rp) (pv:Value) (Z:Sy):Prop:=∃ R',SyAt w' pf pw R' pv Z∧Stp (R.Y pf pw) (R'.Y pf pw) w w'
section
variable {w w' w'':World} {pf pw:Nat} {R R':Rp} {pv:Value} {Y Z:Sy}
theorem Goes.of (h:SyAt w pf pw R pv Y) (hb:Below w.heap.size w w'):Goes w w' pf pw R pv Y:=⟨R,h.keep hb,Stp.of_below hb⟩
theorem Goes.below (h:Goes w w' pf pw R pv Z) (hb:Below w'.heap.size w' w''):Goes w w'' pf pw R pv Z:=by
 obtain⟨R',h1,h2⟩:=h;exact⟨R',h1.keep hb,h2.trans (Stp.of_below hb)⟩
end
end
section
open Go.RowKit
def freeB (c:Cr) (d n:An):Bool:=decide (d.mode<512) || ownsB c d || ownsB c n
def Fs.leaveE (S:Fs) (c:Cr) (dir:Int) (s:ByteArray):Int:=
 if S.placeE c dir s≠0 then S.placeE c dir s else
 match S.get dir with
 | none=>5
 | some d=>match S.get (entFind d.ents s) with
  | none=>5
  | some n=>if S.over n.no≠n.no then 16 else if freeB c d n=false then 4 else 0
def Fs.killF (S:Fs) (n:An):Fs:=
 if S.root n.dev=n.no then S else
 match S.dev n.dev with
 | none=>S.del n.no
 | some v=>(S.setDev n.dev {v with b:=tkB v.b v.n v.mb v.mn (-blkI n.kind n.data.size) (-1),n:=tkN v.b v.n v.mb v.mn (-blkI n.kind n.data.size) (-1)}).del n.no
def Fs.lessF (S:Fs) (now:Int) (n:An):Fs:=
 if n.links - 1≤0 then (S.set {n with links:=n.links - 1,ctime:=now}).killF {n with links:=n.links - 1,ctime:=now} else S.set {n with links:=n.links - 1,ctime:=now}
def Fs.goneF (S:Fs) (now:Int) (d n:An) (s:ByteArray):Fs:=(S.touch now d.no (entDrop d.ents s)).lessF now n
def Fs.unlinkF (S:Fs) (c:Cr) (now dir:Int) (s:ByteArray):Fs×Int:=
 if S.leaveE c dir s≠0 then (S,S.leaveE c dir s) else
 match S.get dir,S.get (entFind (S.entsOf dir) s) with
 | some d,some n=>if n.kind=1 then (S,8) else (S.goneF now d n s,0)
 | _,_=>(S,5)
def Fs.rmdirF (S:Fs) (c:Cr) (now dir:Int) (s:ByteArray):Fs×Int:=
 if S.leaveE c dir s≠0 then (S,S.leaveE c dir s) else
 match S.get dir,S.get (entFind (S.entsOf dir) s) with
 | some d,some n=>if n.kind≠1 then (S,9) else if n.ents≠[] then (S,10) else (S.goneF now d n s,0)
 | _,_=>(S,5)
end
section
open Go.RowKit
def Fs.readF (S:Fs) (d:Bool) (c:Cr) (no:Int):ByteArray×Int:=if d=true then (ByteArray.empty,20) else S.read c no
section
variable {w w':World} {pf:Nat} {R:Rf} {S:Fs}
end
end
section
open Go.RowKit
theorem ccred_any (u g:Int) (t:ByteArray) (w:World) :
  Calls Tryz.prog 12 #[.agg #[.int .i64 u,.int .i64 g,.string t]] w fun e w'=>e=.returned (.agg #[.int .i64 u,.int .i64 g])∧Below w.heap.size w w':=by
 go_enter Tryz.func12,Tryz.ntmps12;go_wp2_with fail
 go_returns
 exact⟨rfl,by go_grown⟩
section
variable {w w':World} {pw:Nat} {R:Rp} {S:Fs}
theorem wgetZ (h:WdAt w pw R S) (k:Int):∃ ea el ec b,∀ w1,Below w.heap.size w w1→
  Calls Tryz.prog 132 #[.pointer (some ⟨R.pt,0,none⟩),.int .i64 k] w1 fun e w'=>e=.returned (.tuple #[(S.getZ k).v ea el ec,.bool b])∧Below w1.heap.size w1 w':=by
 obtain⟨a,ea,el,ec,b,-,-,hg,hc⟩:=wget_u h k;have:S.getZ k=a:=by
  rcases hg with ⟨h1,-⟩|⟨h1,h2,-⟩
  ·exact getZ_some h1
  ·rw [getZ_none h1,h2]
 rw [this];exact⟨ea,el,ec,b,hc⟩
theorem plook_any (h:WdAt w pw R S) {N:Nat} (hk:FsOk S N) (hN:N≤999999) (c:Cr) (dir:Int) (n:ByteArray) :
  Calls Tryz.prog 123 #[.pointer (some ⟨pw,0,none⟩),.agg #[.int .i64 c.u,.int .i64 c.g],.int .i64 dir,.string n] w fun e w'=>e=.returned (.tuple #[.int .i64 (S.lookF false c dir n).1,.int .i64 (S.lookF false c dir n).2])∧Below w.heap.size w w':=by
 have HO:=Lib.hid (fun w1 (hb1:Below w.heap.size w w1)=>open_any (h.keep hb1) hk c dir 1 1);have HOv:=Lib.hid (fun w1 (hb1:Below w.heap.size w w1) k=>wover_any (h.keep hb1) hk.d1 k);have HK:=Lib.hid hk;have HR:=Lib.hid (show S.lookF false c dir n=if S.openE c dir 1 1≠0 then (0,S.openE c dir 1 1) else if entFind (S.entsOf dir) n=0 then (0,5) else (S.over (entFind (S.entsOf dir) n),0) by unfold Fs.lookF;rw [if_neg (by decide)]);generalize S.lookF false c dir n=rd at HR ⊢;have hbc:=balloc (Below.refl w.heap.size w) (.cells #[.int .i64 c.u,.int .i64 c.g] 54);clear h hk;go_enter Tryz.func123,Tryz.ntmps123;go_wp2_with fail;refine (HO.out _ hbc).mono ?_;rintro e w1 ⟨⟨h0,rfl⟩|⟨h0,d,ea,el,ec,hg,rfl,he⟩,hb1⟩
 ·have HB:=Lib.hid (bnext hbc hb1);have HE:=Lib.hid (HR.out.trans (if_pos h0));have h0':(S.openE c dir 1 1 != 0)=true:=by simpa using h0
  generalize S.openE c dir 1 1=oe at HE h0' ⊢;unfold An.v an0;clear h0 hb1 hbc;go_wp2_with fail;go_ret2;rw [HE.out];exact⟨rfl,balloc HB.out _⟩
 ·have hb2:=bnext hbc hb1;have hen:S.entsOf dir=d.ents:=by
   unfold Fs.entsOf;rw [hg]
  have HE:=Lib.hid (show rd=if entFind d.ents n=0 then (0,5) else (S.over (entFind d.ents n),0) by rw [HR.out,if_neg (by simpa using h0),hen]);have hfew:el≤1000000:=by
   rw [←he.len];exact Nat.le_trans (HK.out.get hg).1.few (by omega)
  have HF:=Lib.hid (fun w2 (hb2:Below w1.heap.size w1 w2)=>efind_any d.ents ea el ec n w2 ((he.keep hb1).keep hb2) (HK.out.get hg).1.rise hfew);have hX:=Blk.new w1 #[.int .i64 d.no,.int .i64 d.dev,.int .i64 d.kind,.int .i64 d.mode,.int .i64 d.uid,.int .i64 d.gid,.int .i64 d.mtime,.int .i64 d.ctime,.int .i64 d.links,.int .i64 d.up,.string d.data,.slice ea el ec] 163;have hbX:=balloc (Below.refl w1.heap.size w1) (.cells #[.int .i64 d.no,.int .i64 d.dev,.int .i64 d.kind,.int .i64 d.mode,.int .i64 d.uid,.int .i64 d.gid,.int .i64 d.mtime,.int .i64 d.ctime,.int .i64 d.links,.int .i64 d.up,.string d.data,.slice ea el ec] 163);have HB2:=Lib.hid hb2;unfold An.v;clear h0 hb1 hbc hb2 hen he hfew hg;go_upto_region 2 with fail;generalize w1.alloc (.cells #[.int .i64 d.no,.int .i64 d.dev,.int .i64 d.kind,.int .i64 d.mode,.int .i64 d.uid,.int .i64 d.gid,.int .i64 d.mtime,.int .i64 d.ctime,.int .i64 d.links,.int .i64 d.up,.string d.data,.slice ea el ec] 163)=X at hX hbX ⊢;have HBX:=Lib.hid hbX;have HBW:=Lib.hid (HB2.out.trans (hbX.mono HB2.out.size));obtain⟨xc,xf,xz⟩:=hX.facts;clear hX hbX;generalize entFind d.ents n=f at HE HF;go_wp2_with fail;refine (HF.out _ HBX.out).mono ?_;rintro e w2 ⟨rfl,hb2⟩;have HB3:=Lib.hid (bnext HBW.out hb2);clear hb2 xc xf xz;by_cases hf:f=0
  ·have HE1:=Lib.hid (HE.out.trans (if_pos hf));have hf1:(f == 0)=true:=by simpa using hf
   clear hf;go_wp2_with fail;go_ret2;rw [HE1.out];exact⟨rfl,HB3.out⟩
  ·have HE1:=Lib.hid (HE.out.trans (if_neg hf));have hf1:(f == 0)=false:=by simpa using hf
   clear hf;go_wp2_with fail;refine (HOv.out _ HB3.out _).mono ?_;rintro e w3 ⟨rfl,hb3⟩;have HB4:=Lib.hid (bnext HB3.out hb3);clear hb3;go_wp2_with fail;go_ret2;rw [HE1.out];exact⟨rfl,HB4.out⟩
end
section
variable {w w':World} {pf pw:Nat} {R:Rp} {pv:Value} {Y:Sy}
theorem slook_any (h:SyAt w pf pw R pv Y) {N:Nat} (hk:FsOk Y.fs N) (hN:N≤999999) (c:Cr) (dir:Int) (n:ByteArray) :
  Calls Tryz.prog 74 #[.pointer (some ⟨pf,0,none⟩),.agg #[.int .i64 c.u,.int .i64 c.g],.int .i64 dir,.string n] w fun e w'=>e=.returned (.tuple #[.int .i64 (Y.fs.lookF Y.dead c dir n).1,.int .i64 (Y.fs.lookF Y.dead c dir n).2])∧Below w.heap.size w w':=by
 have hCX:=Blk.new w #[.int .i64 c.u,.int .i64 c.g] 54;have hbX:=balloc (Below.refl w.heap.size w) (.cells #[.int .i64 c.u,.int .i64 c.g] 54);have HR:=Lib.hid (fun w1 (hb1:Below w.heap.size w w1)=>sread_any (h.keep hb1));have HS:=Lib.hid (fun w1 (hb1:Below w.heap.size w w1)=>plook_any (h.wd.keep hb1) hk hN c dir n);obtain⟨pc,-,pz⟩:=h.blk.facts;have HPC:=Lib.hid (fun w1 (hb1:Below w.heap.size w w1)=>show w1.cell? ⟨pf,0,none⟩=some (.pointer (some ⟨pw,0,none⟩)) from (hb1.cell (p:=⟨pf,0,none⟩) pz).trans (pc 0));have mixed:Tryz.prog.follows .mixedOrders=true:=by kernel_rfl
 clear h hk pc pz
 cases hd:Y.dead with
 | true=>
  rw [hd] at HR;clear hd HS;go_enter Tryz.func74,Tryz.ntmps74;go_wp2_with fail;refine (HR.out _ hbX).mono ?_;rintro e w1 ⟨rfl,rfl⟩;have HB:=Lib.hid hbX;clear hbX hCX;go_wp2_with fail;go_ret2;exact⟨rfl,HB.out⟩
 | false=>
  rw [hd] at HR;generalize Y.fs.lookF false c dir n=rd at HS ⊢;clear hd;go_enter Tryz.func74,Tryz.ntmps74;go_wp2_with fail;refine (HR.out _ hbX).mono ?_;rintro e w1 ⟨rfl,rfl⟩;generalize w.alloc (.cells #[.int .i64 c.u,.int .i64 c.g] 54)=W0 at hCX hbX ⊢;have HBX:=Lib.hid hbX;have pc0:=HPC.out _ hbX;obtain⟨cc,-,cz⟩:=hCX.facts;clear hCX hbX;go_wp2_with fail;refine wp_region_lex 7 mixed (by kernel_rfl) (show PanicOk _ from by repeat (first | exact pk_body | refine pk_then ?_ | refine pk_block ?_ | refine pk_scope ?_)) ?_;simp only [List.take_succ_cons,List.take_zero,List.drop_succ_cons,List.drop_zero]
  repeat still_step
  refine wpStill_nil ?_;go_wp2_with fail;refine (HS.out _ HBX.out.drew).mono ?_;rintro e w1 ⟨rfl,hb1⟩;have HB:=Lib.hid (HBX.out.drew.trans (hb1.mono HBX.out.size));clear hb1;go_wp2_with fail;go_ret2;exact⟨rfl,HB.out⟩
theorem cown_any (h:SyAt w pf pw R pv Y) {N:Nat} (hk:FsOk Y.fs N) (hN:N≤999999) (u g:Int) (t:ByteArray) (dir:Int) (n:ByteArray) :
  Calls Tryz.prog 157 #[.pointer (some ⟨pf,0,none⟩),.agg #[.int .i64 u,.int .i64 g,.string t],.int .i64 dir,.string n] w fun e w'=>e=.returned (.tuple #[.int .i64 (Y.fs.ownF Y.dead ⟨u,g⟩ dir n).1,.int .i64 (Y.fs.ownF Y.dead ⟨u,g⟩ dir n).2])∧Below w.heap.size w w':=by
 have hX:=Blk.new w #[.int .i64 u,.int .i64 g,.string t] 33;have hbX:=balloc (Below.refl w.heap.size w) (.cells #[.int .i64 u,.int .i64 g,.string t] 33);have HC:=Lib.hid (ccred_any u g t);have HL:=Lib.hid (fun w1 (hb1:Below w.heap.size w w1)=>slook_any (h.keep hb1) hk hN ⟨u,g⟩ dir n);have HG:=Lib.hid (fun w1 (hb1:Below w.heap.size w w1) k=>wgetZ (h.wd.keep hb1) k);obtain⟨pc,-,pz⟩:=h.blk.facts;obtain⟨qc,-,qz⟩:=h.wd.blk.facts;have HPC:=Lib.hid (fun w1 (hb1:Below w.heap.size w w1)=>show w1.cell? ⟨pf,0,none⟩=some (.pointer (some ⟨pw,0,none⟩))∧w1.cell? ⟨pw,0,none⟩=some (.pointer (some ⟨R.pt,0,none⟩)) from ⟨(hb1.cell (p:=⟨pf,0,none⟩) pz).trans (pc 0),(hb1.cell (p:=⟨pw,0,none⟩) qz).trans (qc 0)⟩);obtain⟨S,hS⟩:∃ S,Y.fs=S:=⟨_,rfl⟩;obtain⟨b,hd⟩:∃ b,Y.dead=b:=⟨_,rfl⟩;rw [hS,hd] at HL;rw [hS] at HG;rw [hS,hd];have HR:=Lib.hid (show S.ownF b ⟨u,g⟩ dir n=if (S.lookF b ⟨u,g⟩ dir n).2=5 then (0,0) else if (S.lookF b ⟨u,g⟩ dir n).2≠0 then (0,(S.lookF b ⟨u,g⟩ dir n).2) else ownV ⟨u,g⟩ (S.getZ (S.lookF b ⟨u,g⟩ dir n).1) (S.getZ dir) (S.lookF b ⟨u,g⟩ dir n).1 from rfl);generalize S.ownF b ⟨u,g⟩ dir n=rd at HR ⊢;generalize S.lookF b ⟨u,g⟩ dir n=r at HR HL;obtain⟨no,e1⟩:=r;dsimp only at HR HL;clear h hk hS hd pc pz qc qz;go_enter Tryz.func157,Tryz.ntmps157;go_upto_region 1 with fail;generalize w.alloc (.cells #[.int .i64 u,.int .i64 g,.string t] 33)=W0 at hX hbX ⊢;have HX:=Lib.hid hX;have HBX:=Lib.hid hbX;obtain⟨xc,xf,xz⟩:=hX.facts;clear hX hbX;go_wp2_with fail;refine (HC.out _).mono ?_;rintro e w1 ⟨rfl,hb1⟩;have HB1:=Lib.hid (bnext HBX.out hb1);have HX1:=Lib.hid (HX.out.keep hb1);clear hb1 xc xf xz;go_wp2_with fail;refine (HL.out _ HB1.out).mono ?_;rintro e w2 ⟨rfl,hb2⟩;have HB2:=Lib.hid (bnext HB1.out hb2);have HX2:=Lib.hid (HX1.out.keep hb2);clear hb2;by_cases h5:e1=5
 ·subst h5;have HE:=Lib.hid (HR.out.trans (if_pos rfl));go_wp2_with fail;go_ret2;rw [HE.out];exact⟨rfl,HB2.out⟩
 ·have h5':(e1 == 5)=false:=by simpa using h5
  by_cases h0:e1=0
  ·subst h0;have HE:=Lib.hid (HR.out.trans ((if_neg (by decide)).trans (if_neg (by decide))));obtain⟨ea,el,ec,b1,hG1⟩:=HG.out _ HB2.out no;have HG1:=Lib.hid hG1;obtain⟨pc,qc⟩:=HPC.out _ HB2.out;unfold An.v at HG1;generalize S.getZ no=x at HE HG1;clear hG1 h5 h5';go_wp2_with fail;refine (HG1.out _ (Below.refl _ _)).mono ?_;rintro e w3 ⟨rfl,hb3⟩;have hb4:=balloc (bnext HB2.out hb3) (.cells #[.int .i64 x.no,.int .i64 x.dev,.int .i64 x.kind,.int .i64 x.mode,.int .i64 x.uid,.int .i64 x.gid,.int .i64 x.mtime,.int .i64 x.ctime,.int .i64 x.links,.int .i64 x.up,.string x.data,.slice ea el ec] 163);have hN4:=Blk.new w3 #[.int .i64 x.no,.int .i64 x.dev,.int .i64 x.kind,.int .i64 x.mode,.int .i64 x.uid,.int .i64 x.gid,.int .i64 x.mtime,.int .i64 x.ctime,.int .i64 x.links,.int .i64 x.up,.string x.data,.slice ea el ec] 163;have hX4:=(HX2.out.keep hb3).old (.cells #[.int .i64 x.no,.int .i64 x.dev,.int .i64 x.kind,.int .i64 x.mode,.int .i64 x.uid,.int .i64 x.gid,.int .i64 x.mtime,.int .i64 x.ctime,.int .i64 x.links,.int .i64 x.up,.string x.data,.slice ea el ec] 163);clear hb3 pc qc;go_upto_region 7 with fail;generalize w3.alloc (.cells #[.int .i64 x.no,.int .i64 x.dev,.int .i64 x.kind,.int .i64 x.mode,.int .i64 x.uid,.int .i64 x.gid,.int .i64 x.mtime,.int .i64 x.ctime,.int .i64 x.links,.int .i64 x.up,.string x.data,.slice ea el ec] 163)=W4 at hb4 hN4 hX4 ⊢;have HB4:=Lib.hid hb4;have HN4:=Lib.hid hN4;have HX4:=Lib.hid hX4;obtain⟨fa,fl,fc,b2,hG2⟩:=HG.out _ HB4.out dir;have HG2:=Lib.hid hG2;obtain⟨pc,qc⟩:=HPC.out _ HB4.out;unfold An.v at HG2;generalize S.getZ dir=y at HE HG2;clear hG2 hb4 hN4 hX4;go_wp2_with fail;refine (HG2.out _ (Below.refl _ _)).mono ?_;rintro e w5 ⟨rfl,hb5⟩;have hb6:=balloc (bnext HB4.out hb5) (.cells #[.int .i64 y.no,.int .i64 y.dev,.int .i64 y.kind,.int .i64 y.mode,.int .i64 y.uid,.int .i64 y.gid,.int .i64 y.mtime,.int .i64 y.ctime,.int .i64 y.links,.int .i64 y.up,.string y.data,.slice fa fl fc] 163);have hM6:=Blk.new w5 #[.int .i64 y.no,.int .i64 y.dev,.int .i64 y.kind,.int .i64 y.mode,.int .i64 y.uid,.int .i64 y.gid,.int .i64 y.mtime,.int .i64 y.ctime,.int .i64 y.links,.int .i64 y.up,.string y.data,.slice fa fl fc] 163;have hN6:=(HN4.out.keep hb5).old (.cells #[.int .i64 y.no,.int .i64 y.dev,.int .i64 y.kind,.int .i64 y.mode,.int .i64 y.uid,.int .i64 y.gid,.int .i64 y.mtime,.int .i64 y.ctime,.int .i64 y.links,.int .i64 y.up,.string y.data,.slice fa fl fc] 163);have hX6:=(HX4.out.keep hb5).old (.cells #[.int .i64 y.no,.int .i64 y.dev,.int .i64 y.kind,.int .i64 y.mode,.int .i64 y.uid,.int .i64 y.gid,.int .i64 y.mtime,.int .i64 y.ctime,.int .i64 y.links,.int .i64 y.up,.string y.data,.slice fa fl fc] 163);clear hb5 pc qc;go_upto_region 8 with fail;generalize w5.alloc (.cells #[.int .i64 y.no,.int .i64 y.dev,.int .i64 y.kind,.int .i64 y.mode,.int .i64 y.uid,.int .i64 y.gid,.int .i64 y.mtime,.int .i64 y.ctime,.int .i64 y.links,.int .i64 y.up,.string y.data,.slice fa fl fc] 163)=W6 at hb6 hM6 hN6 hX6 ⊢;have HB6:=Lib.hid hb6;have HN6:=Lib.hid hN6;obtain⟨mc,mf,mz⟩:=hM6.facts;obtain⟨nc,nf,nz⟩:=hN6.facts;obtain⟨xc,xf,xz⟩:=hX6.facts;clear hb6 hM6 hN6 hX6;unfold ownV at HE;by_cases h1:x.kind=1
   ·have h1':(x.kind != 1)=false:=by simpa using h1
    by_cases h2:x.dev=y.dev
    ·have h2':(x.dev != y.dev)=false:=by simpa using h2
     by_cases h3:x.uid=u
     ·have h3':(x.uid != u)=false:=by simpa using h3
      have HE2:=Lib.hid (HE.out.trans ((if_neg (by simpa using h1)).trans ((if_neg (by simpa using h2)).trans (if_neg (by simpa using h3)))));have HNd:=Lib.hid (fun w=>pnode_any ⟨u,g⟩ x ea el ec 7 w);unfold Cr.v An.v at HNd;generalize x.may ⟨u,g⟩ 7=m at HE2 HNd;clear h1 h2 h3;go_wp2_with fail
      go_region_held3 (fun w'=>(∀ b o,b<W6.heap.size→w'.cell? ⟨b,o,none⟩=W6.cell? ⟨b,o,none⟩)∧Below W6.heap.size W6 w') (first | with_reducible assumption | with_reducible exact keepS_here _ | with_reducible exact keepS_here2 _ | with_reducible exact keepS_call (by assumption) (by assumption) | with_reducible exact keepS_alloc (by assumption) _ | with_reducible exact keepS_allocD (by assumption) _ | with_reducible exact keepS_realloc (by assumption) (by assumption) | with_reducible exact keepS_set4 (by assumption) (by assumption))
       ((first
        | (go_at_call 12;((with_reducible refine (HC.out _).mono ?_);rintro e w7 ⟨rfl,hb7⟩))
        | (go_at_call 146;((with_reducible refine (HNd.out _).mono ?_);rintro e w8 ⟨rfl,hb8⟩))))
      all_goals
       have hbz:Below W6.heap.size W6 w8:=And.right (by assumption);have HBZ:=Lib.hid (bnext HB6.out hbz);clear hbz
       cases m with
       | false=>
        have HE3:=Lib.hid (HE2.out.trans (if_pos rfl));go_wp2_with fail;go_ret2;rw [HE3.out];exact⟨rfl,HBZ.out⟩
       | true=>
        have HE3:=Lib.hid (HE2.out.trans (if_neg (by decide)));go_wp2_with fail;go_ret2;rw [HE3.out];exact⟨rfl,HBZ.out⟩
     ·have h3':(x.uid != u)=true:=by simpa using h3
      have HE2:=Lib.hid (HE.out.trans ((if_neg (by simpa using h1)).trans ((if_neg (by simpa using h2)).trans (if_pos h3))));clear h1 h2 h3;go_wp2_with fail;go_ret2;rw [HE2.out];exact⟨rfl,HB6.out⟩
    ·have h2':(x.dev != y.dev)=true:=by simpa using h2
     have HE2:=Lib.hid (HE.out.trans ((if_neg (by simpa using h1)).trans (if_pos h2)));clear h1 h2;go_wp2_with fail;go_ret2;rw [HE2.out];exact⟨rfl,HB6.out⟩
   ·have h1':(x.kind != 1)=true:=by simpa using h1
    have HE2:=Lib.hid (HE.out.trans (if_pos h1));clear h1;go_wp2_with fail;go_ret2;rw [HE2.out];exact⟨rfl,HB6.out⟩
  ·have h0':(e1 != 0)=true:=by simpa using h0
   have HE:=Lib.hid (HR.out.trans ((if_neg h5).trans (if_pos h0)));clear h0 h5;go_wp2_with fail;go_ret2;rw [HE.out];exact⟨rfl,HB2.out⟩
end
end
section
open Go.RowKit Go.Shelf
theorem OE.app2 {w:World} {base:Nat} {v:Value} {es:List En} (h:OE w base v es) (x:En) (hl:es.length≤1000000) (hb:base≤w.heap.size) :
  ∃ g cap W,(Builtin.append_ #[88,88] 88 #[v,.slice (some ⟨w.heap.size,0,none⟩) 1 1]).run Tryz.prog (w.alloc (.cells #[.string x.name,.int .i64 x.no] 92))=.ok (.slice (some ⟨g,0,none⟩) (es.length+1) cap) W∧
   OE W base (.slice (some ⟨g,0,none⟩) (es.length+1) cap) (es ++ [x])∧Mod (fun k=>v.ownBlock=some k) w W∧Below base w W:=by
 obtain⟨g,cap,W,h1,h2,h3,-⟩:=own_app1 Tryz.underlying88 ent_info rfl (by decide) h (entC x) rfl (by intro u hu;simp [entC] at hu;rcases hu with rfl | rfl <;> rfl) hl (by decide) hb;refine ⟨g,cap,W,h1,?_,h3,h3.below (fun k hk=>(own_obj1 h hk).1) hb⟩;unfold OE;rw [List.length_append,List.length_singleton,List.flatMap_append];exact (by simpa using h2)
def Fs.seen (S:Fs) (e:En):En:=⟨e.name,S.over e.no⟩
theorem listF_seen (S:Fs) (c:Cr) (no:Int):S.listF false c no=if S.openE c no 1 4≠0 then ([],S.openE c no 1 4) else ((S.entsOf no).map S.seen,0):=by
 unfold Fs.listF;rw [if_neg (by decide)];rfl
section
variable {w w':World} {pf:Nat} {R:Rf} {S:Fs}
end
end
section
open Go.RowKit
section
variable {w w':World} {pf pw:Nat} {R:Rp} {pv:Value} {Y:Sy}
theorem sdead_any (h:SyAt w pf pw R pv Y) :
  Calls Tryz.prog 69 #[.pointer (some ⟨pf,0,none⟩)] w fun e w'=>e=.returned (.bool Y.dead)∧w=w':=by
 have HN:=Lib.hid (snone_any h);obtain⟨pc,-,pz⟩:=h.blk.facts;clear h;go_enter Tryz.func69,Tryz.ntmps69;go_wp2_with fail;refine HN.out.mono ?_;rintro e w1 ⟨rfl,rfl⟩;go_wp2_with fail;go_ret;exact⟨rfl,rfl⟩
end
end
end Go.Proofs.YtbndfmkgamdgeaaGreatDoor
