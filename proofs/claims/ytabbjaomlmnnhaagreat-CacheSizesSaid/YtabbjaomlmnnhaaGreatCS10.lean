import Derived.Deep.CutBlock
import Derived.Deep.DeepCutAuto
import Derived.RegionTactic
import Derived.BigRegion
import Derived.Test.YtabbjaomlmnnhaaGreatCS9
import Derived.Test.YtabbjaomlmnnhaaGreatCS7
set_option linter.unusedVariables false
set_option linter.unusedSimpArgs false
set_option maxRecDepth 100000
set_option maxHeartbeats 16000000
namespace Go.Proofs.YtabbjaomlmnnhaaGreat
section
open Go.RowKit
theorem eO(Y:Sy):Y.change.1.fs=Y.fs∧Y.change.1.now=Y.now∧Y.change.1.bQ=Y.bQ:=by
 unfold Sy.change
 split
 ·exact⟨rfl,rfl,rfl⟩
 ·split<;>exact⟨rfl,rfl,rfl⟩
def Sy.op(Y:Sy)(g:Fs→Int→Fs×Int×Int):Sy×Int×Int:=
 if Y.change.2≠0 then(Y.change.1,0,Y.change.2) else({Y.change.1 with fs:=(g Y.fs Y.now).1},(g Y.fs Y.now).2)
def Sy.kx(Y:Sy)(g:Fs→Int→Fs×Int):Sy×Int:=
 if Y.change.2≠0 then(Y.change.1,Y.change.2) else({Y.change.1 with fs:=(g Y.fs Y.now).1},(g Y.fs Y.now).2)
section
variable{w w':World}{pf pw:Nat}{R:Rp}{pv:Value}{Y:Sy}
theorem j0(h:bg w pf pw R pv Y){N:Nat}(hk:ax Y.fs N)(hN:N≤999999)(hc:0≤Y.count∧Y.count≤4611686018427387904)(hl:Y.bQ.length≤1000000)(c:Cr)(dir:Int)(s:ByteArray)(mode:Int)(hs:s.size≤9223372036854775807) :
  Calls Tryz.prog 27 #[.pointer (some ⟨pf,0,none⟩),.agg #[.int .i64 c.u,.int .i64 c.g],.int .i64 dir,.string s,.int .i64 mode] w fun e w'=>
   e=.returned (.tuple #[.int .i64 (Y.op (fun S now=>S.aO c now dir s mode)).2.1,.int .i64 (Y.op (fun S now=>S.aO c now dir s mode)).2.2])∧∃R',bg w' pf pw R' pv (Y.op (fun S now=>S.aO c now dir s mode)).1∧aR (R.Y pf pw) (R'.Y pf pw) w w':=by
 have HY:=Qf h;have HC:=Qf (fj (h.ak ((Below.refl _ w).alloc (aa _) (.cells #[.int .i64 c.u,.int .i64 c.g] 64))) hc hl);obtain⟨gY,jf,vQ⟩:=eO Y;have HF:=Qf (ag gY jf);have hpf:=h.aZ.lt;have gD:ax Y.change.1.fs N:=by rw[gY];exact hk
 have mixed:Tryz.prog.follows .mixedOrders=true:=by kernel_rfl
 clear h hk gY jf vQ;go_enter Tryz.func27,Tryz.ntmps27;go_wp2_with fail;refine HC.o.mono ?_;rintro e w1 ⟨rfl,eF,fR⟩;have gS:=Qf ((gw (aR.ar (F:=R.F pw) (aq (Qj w) (.cells #[.int .i64 c.u,.int .i64 c.g] 64)))).trans (uD (pw:=pw) (R:=R) fR));by_cases h0:Y.change.2=0
 ·have nV:(Y.change.2==0)=true:=by simpa using h0
  have HE:=Qf (show Y.op (fun S now=>S.aO c now dir s mode)=_ from if_neg (by simp[h0]));have hcr:=(aw.new w #[.int .i64 c.u,.int .i64 c.g] 64).mod fR (by omega);obtain⟨cc,-,cz⟩:=hcr.facts;obtain⟨pc,-,pz⟩:=eF.aZ.facts;have HD:=Qf (Jy (eF.wd.ak (Below.refl _ w1).drew) gD hN c Y.change.1.now dir s hs mode);have lI:=Qf eF;clear h0 hcr eF fR;go_wp2_with fail;refine aG 12 mixed (by kernel_rfl) (show bL _ from by repeat (first|exact cG|refine cF ?_|refine bR ?_|refine cd ?_)) ?_;simp only[List.take_succ_cons,List.take_zero,List.drop_succ_cons,List.drop_zero]
  repeat still_step
  refine wpStill_nil ?_;go_wp2_with fail;refine HD.o.mono ?_;rintro e w5 ⟨rfl,R5,gH,eJ⟩;have A1:=Qf ((lI.o.ak (Below.refl _ w1).drew).step gH eJ);have sN:=Qf ((gS.o.trans (gw (aR.ar (F:=R.F pw) (Below.refl _ w1).drew))).trans (gw eJ));clear gH eJ;go_wp2_with fail;go_ret2;rw[HE.o,HF.o.1.symm,HF.o.2.symm];exact⟨rfl,R5,A1.o,sN.o⟩
 ·have nV:(Y.change.2==0)=false:=by simpa using h0
  have HE:=Qf (show Y.op (fun S now=>S.aO c now dir s mode)=_ from if_pos h0);have lI:=Qf eF;clear eF h0 fR;generalize Y.change.2=ce at HE nV⊢;go_wp2_with fail;go_ret2;rw[HE.o];exact⟨rfl,R,lI.o,gS.o⟩
theorem fT(h:bg w pf pw R pv Y){N:Nat}(hk:ax Y.fs N)(hN:N≤999999)(hc:0≤Y.count∧Y.count≤4611686018427387904)(hl:Y.bQ.length≤1000000)(c:Cr)(dir:Int)(s:ByteArray)(mode:Int)(data:ByteArray)(hs:s.size≤9223372036854775807)(hdata:data.size≤9223372036854775807) :
  Calls Tryz.prog 16 #[.pointer (some ⟨pf,0,none⟩),.agg #[.int .i64 c.u,.int .i64 c.g],.int .i64 dir,.string s,.int .i64 mode,.string data] w fun e w'=>
   e=.returned (.tuple #[.int .i64 (Y.op (fun S now=>S.file c now dir s mode data)).2.1,.int .i64 (Y.op (fun S now=>S.file c now dir s mode data)).2.2])∧∃R',bg w' pf pw R' pv (Y.op (fun S now=>S.file c now dir s mode data)).1∧aR (R.Y pf pw) (R'.Y pf pw) w w':=by
 have HY:=Qf h;have HC:=Qf (fj (h.ak ((Below.refl _ w).alloc (aa _) (.cells #[.int .i64 c.u,.int .i64 c.g] 64))) hc hl);obtain⟨gY,jf,vQ⟩:=eO Y;have HF:=Qf (ag gY jf);have hpf:=h.aZ.lt;have gD:ax Y.change.1.fs N:=by rw[gY];exact hk
 have mixed:Tryz.prog.follows .mixedOrders=true:=by kernel_rfl
 clear h hk gY jf vQ;go_enter Tryz.func16,Tryz.ntmps16;go_wp2_with fail;refine HC.o.mono ?_;rintro e w1 ⟨rfl,eF,fR⟩;have gS:=Qf ((gw (aR.ar (F:=R.F pw) (aq (Qj w) (.cells #[.int .i64 c.u,.int .i64 c.g] 64)))).trans (uD (pw:=pw) (R:=R) fR));by_cases h0:Y.change.2=0
 ·have nV:(Y.change.2==0)=true:=by simpa using h0
  have HE:=Qf (show Y.op (fun S now=>S.file c now dir s mode data)=_ from if_neg (by simp[h0]));have hcr:=(aw.new w #[.int .i64 c.u,.int .i64 c.g] 64).mod fR (by omega);obtain⟨cc,-,cz⟩:=hcr.facts;obtain⟨pc,-,pz⟩:=eF.aZ.facts;have HD:=Qf (Ga (eF.wd.ak (Below.refl _ w1).drew) gD hN c Y.change.1.now dir s hs mode data hdata);have lI:=Qf eF;clear h0 hcr eF fR;go_wp2_with fail;refine aG 13 mixed (by kernel_rfl) (show bL _ from by repeat (first|exact cG|refine cF ?_|refine bR ?_|refine cd ?_)) ?_;simp only[List.take_succ_cons,List.take_zero,List.drop_succ_cons,List.drop_zero]
  repeat still_step
  refine wpStill_nil ?_;go_wp2_with fail;refine HD.o.mono ?_;rintro e w5 ⟨rfl,R5,gH,eJ⟩;have A1:=Qf ((lI.o.ak (Below.refl _ w1).drew).step gH eJ);have sN:=Qf ((gS.o.trans (gw (aR.ar (F:=R.F pw) (Below.refl _ w1).drew))).trans (gw eJ));clear gH eJ;go_wp2_with fail;go_ret2;rw[HE.o,HF.o.1.symm,HF.o.2.symm];exact⟨rfl,R5,A1.o,sN.o⟩
 ·have nV:(Y.change.2==0)=false:=by simpa using h0
  have HE:=Qf (show Y.op (fun S now=>S.file c now dir s mode data)=_ from if_pos h0);have lI:=Qf eF;clear eF h0 fR;generalize Y.change.2=ce at HE nV⊢;go_wp2_with fail;go_ret2;rw[HE.o];exact⟨rfl,R,lI.o,gS.o⟩
theorem EL(h:bg w pf pw R pv Y){N:Nat}(hk:ax Y.fs N)(hN:N≤999999)(hc:0≤Y.count∧Y.count≤4611686018427387904)(hl:Y.bQ.length≤1000000)(c:Cr)(dir:Int)(s:ByteArray)(text:ByteArray)(hs:s.size≤9223372036854775807)(htext:text.size≤9223372036854775807) :
  Calls Tryz.prog 86 #[.pointer (some ⟨pf,0,none⟩),.agg #[.int .i64 c.u,.int .i64 c.g],.int .i64 dir,.string s,.string text] w fun e w'=>
   e=.returned (.tuple #[.int .i64 (Y.op (fun S now=>S.sym c now dir s text)).2.1,.int .i64 (Y.op (fun S now=>S.sym c now dir s text)).2.2])∧∃R',bg w' pf pw R' pv (Y.op (fun S now=>S.sym c now dir s text)).1∧aR (R.Y pf pw) (R'.Y pf pw) w w':=by
 have HY:=Qf h;have HC:=Qf (fj (h.ak ((Below.refl _ w).alloc (aa _) (.cells #[.int .i64 c.u,.int .i64 c.g] 64))) hc hl);obtain⟨gY,jf,vQ⟩:=eO Y;have HF:=Qf (ag gY jf);have hpf:=h.aZ.lt;have gD:ax Y.change.1.fs N:=by rw[gY];exact hk
 have mixed:Tryz.prog.follows .mixedOrders=true:=by kernel_rfl
 clear h hk gY jf vQ;go_enter Tryz.func86,Tryz.ntmps86;go_wp2_with fail;refine HC.o.mono ?_;rintro e w1 ⟨rfl,eF,fR⟩;have gS:=Qf ((gw (aR.ar (F:=R.F pw) (aq (Qj w) (.cells #[.int .i64 c.u,.int .i64 c.g] 64)))).trans (uD (pw:=pw) (R:=R) fR));by_cases h0:Y.change.2=0
 ·have nV:(Y.change.2==0)=true:=by simpa using h0
  have HE:=Qf (show Y.op (fun S now=>S.sym c now dir s text)=_ from if_neg (by simp[h0]));have hcr:=(aw.new w #[.int .i64 c.u,.int .i64 c.g] 64).mod fR (by omega);obtain⟨cc,-,cz⟩:=hcr.facts;obtain⟨pc,-,pz⟩:=eF.aZ.facts;have HD:=Qf (Ib (eF.wd.ak (Below.refl _ w1).drew) gD hN c Y.change.1.now dir s hs text htext);have lI:=Qf eF;clear h0 hcr eF fR;go_wp2_with fail;refine aG 12 mixed (by kernel_rfl) (show bL _ from by repeat (first|exact cG|refine cF ?_|refine bR ?_|refine cd ?_)) ?_;simp only[List.take_succ_cons,List.take_zero,List.drop_succ_cons,List.drop_zero]
  repeat still_step
  refine wpStill_nil ?_;go_wp2_with fail;refine HD.o.mono ?_;rintro e w5 ⟨rfl,R5,gH,eJ⟩;have A1:=Qf ((lI.o.ak (Below.refl _ w1).drew).step gH eJ);have sN:=Qf ((gS.o.trans (gw (aR.ar (F:=R.F pw) (Below.refl _ w1).drew))).trans (gw eJ));clear gH eJ;go_wp2_with fail;go_ret2;rw[HE.o,HF.o.1.symm,HF.o.2.symm];exact⟨rfl,R5,A1.o,sN.o⟩
 ·have nV:(Y.change.2==0)=false:=by simpa using h0
  have HE:=Qf (show Y.op (fun S now=>S.sym c now dir s text)=_ from if_pos h0);have lI:=Qf eF;clear eF h0 fR;generalize Y.change.2=ce at HE nV⊢;go_wp2_with fail;go_ret2;rw[HE.o];exact⟨rfl,R,lI.o,gS.o⟩
theorem Ct(h:bg w pf pw R pv Y){N:Nat}(hk:ax Y.fs N)(hN:N≤999999)(hc:0≤Y.count∧Y.count≤4611686018427387904)(hl:Y.bQ.length≤1000000)(c:Cr)(no:Int)(dir:Int)(s:ByteArray)(hs:s.size≤9223372036854775807) :
  Calls Tryz.prog 87 #[.pointer (some ⟨pf,0,none⟩),.agg #[.int .i64 c.u,.int .i64 c.g],.int .i64 no,.int .i64 dir,.string s] w fun e w'=>
   e=.returned (.int .i64 (Y.kx (fun S now=>S.ez c now no dir s)).2)∧∃R',bg w' pf pw R' pv (Y.kx (fun S now=>S.ez c now no dir s)).1∧aR (R.Y pf pw) (R'.Y pf pw) w w':=by
 have HY:=Qf h;have HC:=Qf (fj (h.ak ((Below.refl _ w).alloc (aa _) (.cells #[.int .i64 c.u,.int .i64 c.g] 64))) hc hl);obtain⟨gY,jf,vQ⟩:=eO Y;have HF:=Qf (ag gY jf);have hpf:=h.aZ.lt;have gD:ax Y.change.1.fs N:=by rw[gY];exact hk
 have mixed:Tryz.prog.follows .mixedOrders=true:=by kernel_rfl
 clear h hk gY jf vQ;go_enter Tryz.func87,Tryz.ntmps87;go_wp2_with fail;refine HC.o.mono ?_;rintro e w1 ⟨rfl,eF,fR⟩;have gS:=Qf ((gw (aR.ar (F:=R.F pw) (aq (Qj w) (.cells #[.int .i64 c.u,.int .i64 c.g] 64)))).trans (uD (pw:=pw) (R:=R) fR));by_cases h0:Y.change.2=0
 ·have nV:(Y.change.2==0)=true:=by simpa using h0
  have HE:=Qf (show Y.kx (fun S now=>S.ez c now no dir s)=_ from if_neg (by simp[h0]));have hcr:=(aw.new w #[.int .i64 c.u,.int .i64 c.g] 64).mod fR (by omega);obtain⟨cc,-,cz⟩:=hcr.facts;obtain⟨pc,-,pz⟩:=eF.aZ.facts;have HD:=Qf (FP (eF.wd.ak (Below.refl _ w1).drew) gD hN c Y.change.1.now no dir s hs);have lI:=Qf eF;clear h0 hcr eF fR;go_wp2_with fail;refine aG 12 mixed (by kernel_rfl) (show bL _ from by repeat (first|exact cG|refine cF ?_|refine bR ?_|refine cd ?_)) ?_;simp only[List.take_succ_cons,List.take_zero,List.drop_succ_cons,List.drop_zero]
  repeat still_step
  refine wpStill_nil ?_;go_wp2_with fail;refine HD.o.mono ?_;rintro e w5 ⟨rfl,R5,gH,eJ⟩;have A1:=Qf ((lI.o.ak (Below.refl _ w1).drew).step gH eJ);have sN:=Qf ((gS.o.trans (gw (aR.ar (F:=R.F pw) (Below.refl _ w1).drew))).trans (gw eJ));clear gH eJ;go_wp2_with fail;go_ret;rw[HE.o,HF.o.1.symm,HF.o.2.symm];exact⟨rfl,R5,A1.o,sN.o⟩
 ·have nV:(Y.change.2==0)=false:=by simpa using h0
  have HE:=Qf (show Y.kx (fun S now=>S.ez c now no dir s)=_ from if_pos h0);have lI:=Qf eF;clear eF h0 fR;generalize Y.change.2=ce at HE nV⊢;go_wp2_with fail;go_ret;rw[HE.o];exact⟨rfl,R,lI.o,gS.o⟩
theorem zL(h:bg w pf pw R pv Y){N:Nat}(hk:ax Y.fs N)(hN:N≤999999)(hc:0≤Y.count∧Y.count≤4611686018427387904)(hl:Y.bQ.length≤1000000)(c:Cr)(no:Int)(mode:Int)  :
  Calls Tryz.prog 52 #[.pointer (some ⟨pf,0,none⟩),.agg #[.int .i64 c.u,.int .i64 c.g],.int .i64 no,.int .i64 mode] w fun e w'=>
   e=.returned (.int .i64 (Y.kx (fun S now=>S.cw c now no mode)).2)∧∃R',bg w' pf pw R' pv (Y.kx (fun S now=>S.cw c now no mode)).1∧aR (R.Y pf pw) (R'.Y pf pw) w w':=by
 have HY:=Qf h;have HC:=Qf (fj (h.ak ((Below.refl _ w).alloc (aa _) (.cells #[.int .i64 c.u,.int .i64 c.g] 64))) hc hl);obtain⟨gY,jf,vQ⟩:=eO Y;have HF:=Qf (ag gY jf);have hpf:=h.aZ.lt;have gD:ax Y.change.1.fs N:=by rw[gY];exact hk
 have mixed:Tryz.prog.follows .mixedOrders=true:=by kernel_rfl
 clear h hk gY jf vQ;go_enter Tryz.func52,Tryz.ntmps52;go_wp2_with fail;refine HC.o.mono ?_;rintro e w1 ⟨rfl,eF,fR⟩;have gS:=Qf ((gw (aR.ar (F:=R.F pw) (aq (Qj w) (.cells #[.int .i64 c.u,.int .i64 c.g] 64)))).trans (uD (pw:=pw) (R:=R) fR));by_cases h0:Y.change.2=0
 ·have nV:(Y.change.2==0)=true:=by simpa using h0
  have HE:=Qf (show Y.kx (fun S now=>S.cw c now no mode)=_ from if_neg (by simp[h0]));have hcr:=(aw.new w #[.int .i64 c.u,.int .i64 c.g] 64).mod fR (by omega);obtain⟨cc,-,cz⟩:=hcr.facts;obtain⟨pc,-,pz⟩:=eF.aZ.facts;have HD:=Qf (Fm (eF.wd.ak (Below.refl _ w1).drew) gD c Y.change.1.now no mode);have lI:=Qf eF;clear h0 hcr eF fR;go_wp2_with fail;refine aG 11 mixed (by kernel_rfl) (show bL _ from by repeat (first|exact cG|refine cF ?_|refine bR ?_|refine cd ?_)) ?_;simp only[List.take_succ_cons,List.take_zero,List.drop_succ_cons,List.drop_zero]
  repeat still_step
  refine wpStill_nil ?_;go_wp2_with fail;refine HD.o.mono ?_;rintro e w5 ⟨rfl,R5,gH,eJ⟩;have A1:=Qf ((lI.o.ak (Below.refl _ w1).drew).step gH eJ);have sN:=Qf ((gS.o.trans (gw (aR.ar (F:=R.F pw) (Below.refl _ w1).drew))).trans (gw eJ));clear gH eJ;go_wp2_with fail;go_ret;rw[HE.o,HF.o.1.symm,HF.o.2.symm];exact⟨rfl,R5,A1.o,sN.o⟩
 ·have nV:(Y.change.2==0)=false:=by simpa using h0
  have HE:=Qf (show Y.kx (fun S now=>S.cw c now no mode)=_ from if_pos h0);have lI:=Qf eF;clear eF h0 fR;generalize Y.change.2=ce at HE nV⊢;go_wp2_with fail;go_ret;rw[HE.o];exact⟨rfl,R,lI.o,gS.o⟩
theorem zK(h:bg w pf pw R pv Y){N:Nat}(hk:ax Y.fs N)(hN:N≤999999)(hc:0≤Y.count∧Y.count≤4611686018427387904)(hl:Y.bQ.length≤1000000)(c:Cr)(no:Int)(uid:Int)(gid:Int)  :
  Calls Tryz.prog 51 #[.pointer (some ⟨pf,0,none⟩),.agg #[.int .i64 c.u,.int .i64 c.g],.int .i64 no,.int .i64 uid,.int .i64 gid] w fun e w'=>
   e=.returned (.int .i64 (Y.kx (fun S now=>S.cD c now no uid gid)).2)∧∃R',bg w' pf pw R' pv (Y.kx (fun S now=>S.cD c now no uid gid)).1∧aR (R.Y pf pw) (R'.Y pf pw) w w':=by
 have HY:=Qf h;have HC:=Qf (fj (h.ak ((Below.refl _ w).alloc (aa _) (.cells #[.int .i64 c.u,.int .i64 c.g] 64))) hc hl);obtain⟨gY,jf,vQ⟩:=eO Y;have HF:=Qf (ag gY jf);have hpf:=h.aZ.lt;have gD:ax Y.change.1.fs N:=by rw[gY];exact hk
 have mixed:Tryz.prog.follows .mixedOrders=true:=by kernel_rfl
 clear h hk gY jf vQ;go_enter Tryz.func51,Tryz.ntmps51;go_wp2_with fail;refine HC.o.mono ?_;rintro e w1 ⟨rfl,eF,fR⟩;have gS:=Qf ((gw (aR.ar (F:=R.F pw) (aq (Qj w) (.cells #[.int .i64 c.u,.int .i64 c.g] 64)))).trans (uD (pw:=pw) (R:=R) fR));by_cases h0:Y.change.2=0
 ·have nV:(Y.change.2==0)=true:=by simpa using h0
  have HE:=Qf (show Y.kx (fun S now=>S.cD c now no uid gid)=_ from if_neg (by simp[h0]));have hcr:=(aw.new w #[.int .i64 c.u,.int .i64 c.g] 64).mod fR (by omega);obtain⟨cc,-,cz⟩:=hcr.facts;obtain⟨pc,-,pz⟩:=eF.aZ.facts;have HD:=Qf (C1 (eF.wd.ak (Below.refl _ w1).drew) gD c Y.change.1.now no uid gid);have lI:=Qf eF;clear h0 hcr eF fR;go_wp2_with fail;refine aG 12 mixed (by kernel_rfl) (show bL _ from by repeat (first|exact cG|refine cF ?_|refine bR ?_|refine cd ?_)) ?_;simp only[List.take_succ_cons,List.take_zero,List.drop_succ_cons,List.drop_zero]
  repeat still_step
  refine wpStill_nil ?_;go_wp2_with fail;refine HD.o.mono ?_;rintro e w5 ⟨rfl,R5,gH,eJ⟩;have A1:=Qf ((lI.o.ak (Below.refl _ w1).drew).step gH eJ);have sN:=Qf ((gS.o.trans (gw (aR.ar (F:=R.F pw) (Below.refl _ w1).drew))).trans (gw eJ));clear gH eJ;go_wp2_with fail;go_ret;rw[HE.o,HF.o.1.symm,HF.o.2.symm];exact⟨rfl,R5,A1.o,sN.o⟩
 ·have nV:(Y.change.2==0)=false:=by simpa using h0
  have HE:=Qf (show Y.kx (fun S now=>S.cD c now no uid gid)=_ from if_pos h0);have lI:=Qf eF;clear eF h0 fR;generalize Y.change.2=ce at HE nV⊢;go_wp2_with fail;go_ret;rw[HE.o];exact⟨rfl,R,lI.o,gS.o⟩
theorem zy(h:bg w pf pw R pv Y){N:Nat}(hk:ax Y.fs N)(hN:N≤999999)(hc:0≤Y.count∧Y.count≤4611686018427387904)(hl:Y.bQ.length≤1000000)(c:Cr)(no:Int)(t:Int)  :
  Calls Tryz.prog 53 #[.pointer (some ⟨pf,0,none⟩),.agg #[.int .i64 c.u,.int .i64 c.g],.int .i64 no,.int .i64 t] w fun e w'=>
   e=.returned (.int .i64 (Y.kx (fun S now=>S.cA c now no t)).2)∧∃R',bg w' pf pw R' pv (Y.kx (fun S now=>S.cA c now no t)).1∧aR (R.Y pf pw) (R'.Y pf pw) w w':=by
 have HY:=Qf h;have HC:=Qf (fj (h.ak ((Below.refl _ w).alloc (aa _) (.cells #[.int .i64 c.u,.int .i64 c.g] 64))) hc hl);obtain⟨gY,jf,vQ⟩:=eO Y;have HF:=Qf (ag gY jf);have hpf:=h.aZ.lt;have gD:ax Y.change.1.fs N:=by rw[gY];exact hk
 have mixed:Tryz.prog.follows .mixedOrders=true:=by kernel_rfl
 clear h hk gY jf vQ;go_enter Tryz.func53,Tryz.ntmps53;go_wp2_with fail;refine HC.o.mono ?_;rintro e w1 ⟨rfl,eF,fR⟩;have gS:=Qf ((gw (aR.ar (F:=R.F pw) (aq (Qj w) (.cells #[.int .i64 c.u,.int .i64 c.g] 64)))).trans (uD (pw:=pw) (R:=R) fR));by_cases h0:Y.change.2=0
 ·have nV:(Y.change.2==0)=true:=by simpa using h0
  have HE:=Qf (show Y.kx (fun S now=>S.cA c now no t)=_ from if_neg (by simp[h0]));have hcr:=(aw.new w #[.int .i64 c.u,.int .i64 c.g] 64).mod fR (by omega);obtain⟨cc,-,cz⟩:=hcr.facts;obtain⟨pc,-,pz⟩:=eF.aZ.facts;have HD:=Qf (EE (eF.wd.ak (Below.refl _ w1).drew) gD c Y.change.1.now no t);have lI:=Qf eF;clear h0 hcr eF fR;go_wp2_with fail;refine aG 11 mixed (by kernel_rfl) (show bL _ from by repeat (first|exact cG|refine cF ?_|refine bR ?_|refine cd ?_)) ?_;simp only[List.take_succ_cons,List.take_zero,List.drop_succ_cons,List.drop_zero]
  repeat still_step
  refine wpStill_nil ?_;go_wp2_with fail;refine HD.o.mono ?_;rintro e w5 ⟨rfl,R5,gH,eJ⟩;have A1:=Qf ((lI.o.ak (Below.refl _ w1).drew).step gH eJ);have sN:=Qf ((gS.o.trans (gw (aR.ar (F:=R.F pw) (Below.refl _ w1).drew))).trans (gw eJ));clear gH eJ;go_wp2_with fail;go_ret;rw[HE.o,HF.o.1.symm,HF.o.2.symm];exact⟨rfl,R5,A1.o,sN.o⟩
 ·have nV:(Y.change.2==0)=false:=by simpa using h0
  have HE:=Qf (show Y.kx (fun S now=>S.cA c now no t)=_ from if_pos h0);have lI:=Qf eF;clear eF h0 fR;generalize Y.change.2=ce at HE nV⊢;go_wp2_with fail;go_ret;rw[HE.o];exact⟨rfl,R,lI.o,gS.o⟩
end
end
section
open Go.RowKit
def Cp:Option An→Value
 |none=>.agg #[.int .i64 0,.int .i64 0,.int .i64 0,.int .i64 0,.int .i64 0,.int .i64 0,.int .i64 0,.int .i64 0,.int .i64 0,.int .i64 0]
 |some n=>.agg #[.int .i64 n.no,.int .i64 n.dev,.int .i64 n.kind,.int .i64 n.mode,.int .i64 n.uid,.int .i64 n.gid,.int .i64 n.ao,.int .i64 n.data.size,.int .i64 n.mtime,.int .i64 n.ctime]
def ep:Option An→Int
 |none=>5
 |some _=>0
theorem aw.Be{w:World}{B:Nat}{x0 x1 x2 x3 x4 x5 x6 x7 x8 x9 v0 v1 v2 v3 v4 v5 v6 v7 v8 v9:Value}{T:TypeId}(h:aw w B #[x0,x1,x2,x3,x4,x5,x6,x7,x8,x9] T):aw ((((((((((w.setCell ⟨B,0,none⟩ v0).setCell ⟨B,1,none⟩ v1).setCell ⟨B,2,none⟩ v2).setCell ⟨B,3,none⟩ v3).setCell ⟨B,4,none⟩ v4).setCell ⟨B,5,none⟩ v5).setCell ⟨B,6,none⟩ v6).setCell ⟨B,7,none⟩ v7).setCell ⟨B,8,none⟩ v8).setCell ⟨B,9,none⟩ v9) B #[v0,v1,v2,v3,v4,v5,v6,v7,v8,v9] T:=
 aw.row (xs:=[x0,x1,x2,x3,x4,x5,x6,x7,x8,x9]) (vs:=[v0,v1,v2,v3,v4,v5,v6,v7,v8,v9]) h rfl
theorem jg{N:Nat}{w0 w:World}{B:Nat}{v0 v1 v2 v3 v4 v5 v6 v7 v8 v9:Value}(h:Below N w0 w)(hB:N≤B):Below N w0 ((((((((((w.setCell ⟨B,0,none⟩ v0).setCell ⟨B,1,none⟩ v1).setCell ⟨B,2,none⟩ v2).setCell ⟨B,3,none⟩ v3).setCell ⟨B,4,none⟩ v4).setCell ⟨B,5,none⟩ v5).setCell ⟨B,6,none⟩ v6).setCell ⟨B,7,none⟩ v7).setCell ⟨B,8,none⟩ v8).setCell ⟨B,9,none⟩ v9):=
 oK hB [v0,v1,v2,v3,v4,v5,v6,v7,v8,v9] w 0 h
theorem mY{tmps:Array Value}{W:World}{B:Nat}{y0 y1 y2 y3 y4 y5 y6 y7 y8 y9 e:Int}(hb:aw W B #[.int .i64 y0,.int .i64 y1,.int .i64 y2,.int .i64 y3,.int .i64 y4,.int .i64 y5,.int .i64 y6,.int .i64 y7,.int .i64 y8,.int .i64 y9] 67)
  (h8:tmps.getD 4 undef=.pointer (some ⟨B,0,none⟩)) (h9:tmps.getD 5 undef=.int .i64 e):(results Tryz.f33 tmps).run Tryz.prog W=.ok (.tuple #[.agg #[.int .i64 y0,.int .i64 y1,.int .i64 y2,.int .i64 y3,.int .i64 y4,.int .i64 y5,.int .i64 y6,.int .i64 y7,.int .i64 y8,.int .i64 y9],.int .i64 e]) W:=by
 have q0:=hb.cell 0;have q1:=hb.cell 1;have q2:=hb.cell 2;have q3:=hb.cell 3;have q4:=hb.cell 4;have q5:=hb.cell 5;have q6:=hb.cell 6;have q7:=hb.cell 7;have q8:=hb.cell 8;have q9:=hb.cell 9;rw[Array.getD_eq_getD_getElem?] at h8 h9;simp[results,Tryz.results33,go_sem,h8,h9,q0,q1,q2,q3,q4,q5,q6,q7,q8,q9]
theorem fx{tmps:Array Value}{W:World}{B:Nat}{a:An}{ea:Option Addr}{el ec:Nat}{e:Int}(hb:aw W B #[.int .i64 a.no,.int .i64 a.dev,.int .i64 a.kind,.int .i64 a.mode,.int .i64 a.uid,.int .i64 a.gid,.int .i64 a.mtime,.int .i64 a.ctime,.int .i64 a.ao,.int .i64 a.up,.string a.data,.slice ea el ec] 149)
  (h8:tmps.getD 10 undef=.pointer (some ⟨B,0,none⟩)) (h9:tmps.getD 11 undef=.int .i64 e):(results Tryz.f65 tmps).run Tryz.prog W=.ok (.tuple #[a.v ea el ec,.int .i64 e]) W:=by
 obtain⟨q0,q1,q2,q3,q4,q5,q6,q7,q8,q9,q10,q11⟩:=hb.fB;rw[Array.getD_eq_getD_getElem?] at h8 h9;simp[results,Tryz.results65,go_sem,An.v,h8,h9,q0,q1,q2,q3,q4,q5,q6,q7,q8,q9,q10,q11]
def Fs.dY(S:Fs)(c:Cr)(no kind want:Int):Int:=match S.get no with
 |none=>5
 |some n=>if n.kind=kind then(if n.may c want=true then 0 else 6) else if kind=1 then 9 else if n.kind=1 then 8 else 1
def Fs.read(S:Fs)(c:Cr)(no:Int):ByteArray×Int:=if S.dY c no 2 4=0 then(match S.get no with|none=>(ByteArray.empty,0)|some n=>(n.data,0)) else(ByteArray.empty,S.dY c no 2 4)
section
variable{w w':World}{pw:Nat}{R:Rp}{S:Fs}
theorem EK(h:bm w pw R S){N:Nat}(hk:ax S N)(no:Int) :
  Calls Tryz.prog 33 #[.pointer (some ⟨pw,0,none⟩),.int .i64 no] w fun e w'=>e=.returned (.tuple #[Cp (S.get no),.int .i64 (ep (S.get no))])∧Qi w w':=by
 have lR:=Qf (fun w1 (av:Qi w w1)=>gv (h.ak av) hk.d1);have hnz:=hk.d1;generalize S.ds.length=n at lR hnz;have hz:((n:Int)==0)=false:=by simp;omega
 obtain⟨pc,-,pz⟩:=h.aZ.facts;obtain⟨eu,aI⟩:=Qh w #[.int .i64 0,.int .i64 0,.int .i64 0,.int .i64 0,.int .i64 0,.int .i64 0,.int .i64 0,.int .i64 0,.int .i64 0,.int .i64 0] 67
 cases hg:S.get no with
 |none=>
  have HG:=Qf (fun w1 (av:Qi w w1)=>fK (h.ak av) hg);unfold An.v cS at HG;unfold Cp ep;clear h hk hg;go_enter Tryz.func33,Tryz.ntmps33;go_wp2_with fail;refine(lR.o _ aI).mono ?_;rintro e w1 ⟨rfl,rfl⟩;generalize w.alloc _=W0 at eu aI⊢;have gd:=Qf eu;have aW:=Qf aI;have pc0:W0.cell? ⟨pw,0,none⟩=some (.pointer (some ⟨R.pt,0,none⟩)):=(aI.cell (p:=⟨pw,0,none⟩) pz).trans (pc 0);clear eu aI pc;go_wp2_with fail;refine(HG.o _ aW.o).mono ?_;rintro e w1 ⟨rfl,av⟩;have mG:=(gd.o.ak av).old (.cells #[.int .i64 0,.int .i64 0,.int .i64 0,.int .i64 0,.int .i64 0,.int .i64 0,.int .i64 0,.int .i64 0,.int .i64 0,.int .i64 0,.string ByteArray.empty,.slice none 0 0] 149);have dX:=aq (aW.o.trans (av.mono aW.o.size)) (.cells #[.int .i64 0,.int .i64 0,.int .i64 0,.int .i64 0,.int .i64 0,.int .i64 0,.int .i64 0,.int .i64 0,.int .i64 0,.int .i64 0,.string ByteArray.empty,.slice none 0 0] 149);clear av;go_upto_region 4 with fail;generalize w1.alloc _=Y at mG dX⊢;have zj:=Qf mG;have lS:=Qf dX;obtain⟨rc,rf,rz⟩:=mG.facts;clear mG dX;go_wp2_with fail;exact bodyPost_ret (mY zj.o.Be rfl rfl) rfl ⟨rfl,jg lS.o (aa _)⟩
 |some d=>
  obtain⟨ea,el,ec,he,hG⟩:=eV h hg;have HG:=Qf hG;unfold An.v at HG;unfold Cp ep;clear h hk hg hG he;go_enter Tryz.func33,Tryz.ntmps33;go_wp2_with fail;refine(lR.o _ aI).mono ?_;rintro e w1 ⟨rfl,rfl⟩;generalize w.alloc _=W0 at eu aI⊢;have gd:=Qf eu;have aW:=Qf aI;have pc0:W0.cell? ⟨pw,0,none⟩=some (.pointer (some ⟨R.pt,0,none⟩)):=(aI.cell (p:=⟨pw,0,none⟩) pz).trans (pc 0);clear eu aI pc;go_wp2_with fail;refine(HG.o _ aW.o).mono ?_;rintro e w1 ⟨rfl,av⟩;have mG:=(gd.o.ak av).old (.cells #[.int .i64 d.no,.int .i64 d.dev,.int .i64 d.kind,.int .i64 d.mode,.int .i64 d.uid,.int .i64 d.gid,.int .i64 d.mtime,.int .i64 d.ctime,.int .i64 d.ao,.int .i64 d.up,.string d.data,.slice ea el ec] 149);have dX:=aq (aW.o.trans (av.mono aW.o.size)) (.cells #[.int .i64 d.no,.int .i64 d.dev,.int .i64 d.kind,.int .i64 d.mode,.int .i64 d.uid,.int .i64 d.gid,.int .i64 d.mtime,.int .i64 d.ctime,.int .i64 d.ao,.int .i64 d.up,.string d.data,.slice ea el ec] 149);have pF:=aw.new w1 #[.int .i64 d.no,.int .i64 d.dev,.int .i64 d.kind,.int .i64 d.mode,.int .i64 d.uid,.int .i64 d.gid,.int .i64 d.mtime,.int .i64 d.ctime,.int .i64 d.ao,.int .i64 d.up,.string d.data,.slice ea el ec] 149;clear av;go_upto_region 4 with fail;generalize w1.alloc _=Y at mG dX pF⊢;have zj:=Qf mG;have lS:=Qf dX;obtain⟨rc,rf,rz⟩:=mG.facts;obtain⟨dc,df,dz⟩:=pF.facts;clear mG dX pF;go_wp2_with fail;exact bodyPost_ret (mY zj.o.Be rfl rfl) rfl ⟨rfl,jg lS.o (aa _)⟩
theorem qX(h:bm w pw R S){N:Nat}(hk:ax S N)(c:Cr)(no kind want:Int) :
  Calls Tryz.prog 65 #[.pointer (some ⟨pw,0,none⟩),.agg #[.int .i64 c.u,.int .i64 c.g],.int .i64 no,.int .i64 kind,.int .i64 want] w fun e w'=>((S.dY c no kind want≠0∧e=.returned (.tuple #[cS.v none 0 0,.int .i64 (S.dY c no kind want)]))∨(S.dY c no kind want=0∧∃d ea el ec,S.get no=some d∧e=.returned (.tuple #[d.v ea el ec,.int .i64 0])∧aA w ea el ec d.ay))∧Qi w w':=by
 have lR:=Qf (fun w1 (av:Qi w w1)=>gv (h.ak av) hk.d1);have hnz:=hk.d1;generalize S.ds.length=n at lR hnz;have hz:((n:Int)==0)=false:=by simp;omega
 obtain⟨pc,-,pz⟩:=h.aZ.facts;have eu:aw ((w.alloc (.cells #[.int .i64 c.u,.int .i64 c.g] 64)).alloc (.cells #[.int .i64 0,.int .i64 0,.int .i64 0,.int .i64 0,.int .i64 0,.int .i64 0,.int .i64 0,.int .i64 0,.int .i64 0,.int .i64 0,.string ⟨#[]⟩,.slice none 0 0] 149)) (w.heap.size+1) #[.int .i64 0,.int .i64 0,.int .i64 0,.int .i64 0,.int .i64 0,.int .i64 0,.int .i64 0,.int .i64 0,.int .i64 0,.int .i64 0,.string ⟨#[]⟩,.slice none 0 0] 149:=by
  have:=aw.new (w.alloc (.cells #[.int .i64 c.u,.int .i64 c.g] 64)) #[.int .i64 0,.int .i64 0,.int .i64 0,.int .i64 0,.int .i64 0,.int .i64 0,.int .i64 0,.int .i64 0,.int .i64 0,.int .i64 0,.string ⟨#[]⟩,.slice none 0 0] 149
  rwa [World.size_alloc] at this
 have gp:=(aw.new w #[.int .i64 c.u,.int .i64 c.g] 64).old (.cells #[.int .i64 0,.int .i64 0,.int .i64 0,.int .i64 0,.int .i64 0,.int .i64 0,.int .i64 0,.int .i64 0,.int .i64 0,.int .i64 0,.string ⟨#[]⟩,.slice none 0 0] 149);have aI:=aq (aq (Qj w) (.cells #[.int .i64 c.u,.int .i64 c.g] 64)) (.cells #[.int .i64 0,.int .i64 0,.int .i64 0,.int .i64 0,.int .i64 0,.int .i64 0,.int .i64 0,.int .i64 0,.int .i64 0,.int .i64 0,.string ⟨#[]⟩,.slice none 0 0] 149)
 cases hg:S.get no with
 |none=>
  have HE:=Qf (show S.dY c no kind want=5 by unfold Fs.dY;rw[hg]);have HG:=Qf (fun w1 (av:Qi w w1)=>fK (h.ak av) hg);unfold An.v cS at HG;generalize S.dY c no kind want=oe at HE⊢;clear h hk hg;go_enter Tryz.func65,Tryz.ntmps65;go_wp2_with fail;refine(lR.o _ aI).mono ?_;rintro e w1 ⟨rfl,rfl⟩;generalize (w.alloc (.cells #[.int .i64 c.u,.int .i64 c.g] 64)).alloc (.cells #[.int .i64 0,.int .i64 0,.int .i64 0,.int .i64 0,.int .i64 0,.int .i64 0,.int .i64 0,.int .i64 0,.int .i64 0,.int .i64 0,.string ⟨#[]⟩,.slice none 0 0] 149)=W0 at eu gp aI⊢;have gd:=Qf eu;have aW:=Qf aI;have pc0:W0.cell? ⟨pw,0,none⟩=some (.pointer (some ⟨R.pt,0,none⟩)):=(aI.cell (p:=⟨pw,0,none⟩) pz).trans (pc 0);clear eu aI pc gp;go_wp2_with fail;refine(HG.o _ aW.o).mono ?_;rintro e w1 ⟨rfl,av⟩;have mG:=(gd.o.ak av).old (.cells #[.int .i64 0,.int .i64 0,.int .i64 0,.int .i64 0,.int .i64 0,.int .i64 0,.int .i64 0,.int .i64 0,.int .i64 0,.int .i64 0,.string ByteArray.empty,.slice none 0 0] 149);have dX:=aq (aW.o.trans (av.mono aW.o.size)) (.cells #[.int .i64 0,.int .i64 0,.int .i64 0,.int .i64 0,.int .i64 0,.int .i64 0,.int .i64 0,.int .i64 0,.int .i64 0,.int .i64 0,.string ByteArray.empty,.slice none 0 0] 149);clear av;go_upto_region 4 with fail;generalize w1.alloc _=Y at mG dX⊢;have zj:=Qf mG;have lS:=Qf dX;obtain⟨rc,rf,rz⟩:=mG.facts;clear mG dX;go_wp2_with fail;exact bodyPost_ret (fx (a:=cS) zj.o.dh rfl rfl) rfl ⟨.inl ⟨by rw[HE.o];decide,by rw[HE.o]⟩,aT lS.o (Nat.le_succ _)⟩
 |some d=>
  obtain⟨ea,el,ec,he,hG⟩:=eV h hg;have HG:=Qf hG;have lQ:=Qf he;have HQ:=Qf (show S.dY c no kind want=if d.kind=kind then(if d.may c want=true then 0 else 6) else if kind=1 then 9 else if d.kind=1 then 8 else 1 by unfold Fs.dY;rw[hg]);have mS:=Qf (fun w=>lz c d ea el ec want w);unfold Cr.v An.v at mS;unfold An.v at HG;generalize S.dY c no kind want=oe at HQ⊢;clear h hk hg hG he;go_enter Tryz.func65,Tryz.ntmps65;go_wp2_with fail;refine(lR.o _ aI).mono ?_;rintro e w1 ⟨rfl,rfl⟩;generalize (w.alloc (.cells #[.int .i64 c.u,.int .i64 c.g] 64)).alloc (.cells #[.int .i64 0,.int .i64 0,.int .i64 0,.int .i64 0,.int .i64 0,.int .i64 0,.int .i64 0,.int .i64 0,.int .i64 0,.int .i64 0,.string ⟨#[]⟩,.slice none 0 0] 149)=W0 at eu gp aI⊢;have gd:=Qf eu;have aW:=Qf aI;have Ms:=Qf gp;have pc0:W0.cell? ⟨pw,0,none⟩=some (.pointer (some ⟨R.pt,0,none⟩)):=(aI.cell (p:=⟨pw,0,none⟩) pz).trans (pc 0);clear eu aI pc gp;go_wp2_with fail;refine(HG.o _ aW.o).mono ?_;rintro e w1 ⟨rfl,av⟩;have mG:=(gd.o.ak av).old (.cells #[.int .i64 d.no,.int .i64 d.dev,.int .i64 d.kind,.int .i64 d.mode,.int .i64 d.uid,.int .i64 d.gid,.int .i64 d.mtime,.int .i64 d.ctime,.int .i64 d.ao,.int .i64 d.up,.string d.data,.slice ea el ec] 149);have hCY:=(Ms.o.ak av).old (.cells #[.int .i64 d.no,.int .i64 d.dev,.int .i64 d.kind,.int .i64 d.mode,.int .i64 d.uid,.int .i64 d.gid,.int .i64 d.mtime,.int .i64 d.ctime,.int .i64 d.ao,.int .i64 d.up,.string d.data,.slice ea el ec] 149);have dX:=aq (aW.o.trans (av.mono aW.o.size)) (.cells #[.int .i64 d.no,.int .i64 d.dev,.int .i64 d.kind,.int .i64 d.mode,.int .i64 d.uid,.int .i64 d.gid,.int .i64 d.mtime,.int .i64 d.ctime,.int .i64 d.ao,.int .i64 d.up,.string d.data,.slice ea el ec] 149);have pF:=aw.new w1 #[.int .i64 d.no,.int .i64 d.dev,.int .i64 d.kind,.int .i64 d.mode,.int .i64 d.uid,.int .i64 d.gid,.int .i64 d.mtime,.int .i64 d.ctime,.int .i64 d.ao,.int .i64 d.up,.string d.data,.slice ea el ec] 149;clear av;go_upto_region 4 with fail;generalize w1.alloc _=Y at mG dX pF hCY⊢;have zj:=Qf mG;have lS:=Qf dX;have HDY:=Qf pF;obtain⟨rc,rf,rz⟩:=mG.facts;obtain⟨dc,df,dz⟩:=pF.facts;obtain⟨cc,-,-⟩:=hCY.facts;clear mG dX pF hCY;by_cases h1:d.kind=kind
  ·have oC:(d.kind==kind)=true:=by simpa using h1
   have pN:=Qf (HQ.o.trans (if_pos h1));clear h1 HQ;go_wp2_with fail;refine(mS.o _).mono ?_;rintro e w5 ⟨rfl,bU⟩;have hRZ:=zj.o.ak bU;have MW:=HDY.o.ak bU;have HRZ:=Qf hRZ;have qg:=Qf (lS.o.trans (bU.mono lS.o.size));clear rc rf rz dc df dz cc bU;obtain⟨rc,rf,rz⟩:=hRZ.facts;obtain⟨dc,df,dz⟩:=MW.facts;clear hRZ MW
   cases hm:d.may c want with
   |true=>
    have HE:=Qf (pN.o.trans (if_pos hm));clear hm;go_wp2_with fail;exact bodyPost_ret (fx (a:=d) (ea:=ea) (el:=el) (ec:=ec) HRZ.o.dh rfl rfl) rfl ⟨.inr ⟨HE.o,d,ea,el,ec,rfl,rfl,lQ.o⟩,aT qg.o (Nat.le_succ _)⟩
   |false=>
    have HE:=Qf (pN.o.trans (if_neg (by rw[hm];decide)));clear hm;go_wp2_with fail;exact bodyPost_ret (fx (a:=cS) HRZ.o.dh rfl rfl) rfl ⟨.inl ⟨by rw[HE.o];decide,by rw[HE.o]⟩,aT qg.o (Nat.le_succ _)⟩
  ·have oC:(d.kind==kind)=false:=by simpa using h1
   have pN:=Qf (HQ.o.trans (if_neg h1));clear h1 HQ;by_cases h2:kind=1
   ·have kq:(kind==1)=true:=by simpa using h2
    have HE:=Qf (pN.o.trans (if_pos h2));clear h2;go_wp2_with fail;exact bodyPost_ret (fx (a:=cS) zj.o.dh rfl rfl) rfl ⟨.inl ⟨by rw[HE.o];decide,by rw[HE.o]⟩,aT lS.o (Nat.le_succ _)⟩
   ·have kq:(kind==1)=false:=by simpa using h2
    have sP:=Qf (pN.o.trans (if_neg h2));clear h2 pN;by_cases h3:d.kind=1
    ·have rH:(d.kind==1)=true:=by simpa using h3
     have HE:=Qf (sP.o.trans (if_pos h3));clear h3;go_wp2_with fail;exact bodyPost_ret (fx (a:=cS) zj.o.dh rfl rfl) rfl ⟨.inl ⟨by rw[HE.o];decide,by rw[HE.o]⟩,aT lS.o (Nat.le_succ _)⟩
    ·have rH:(d.kind==1)=false:=by simpa using h3
     have HE:=Qf (sP.o.trans (if_neg h3));clear h3;go_wp2_with fail;exact bodyPost_ret (fx (a:=cS) zj.o.dh rfl rfl) rfl ⟨.inl ⟨by rw[HE.o];decide,by rw[HE.o]⟩,aT lS.o (Nat.le_succ _)⟩
theorem CQ(h:bm w pw R S){N:Nat}(hk:ax S N)(c:Cr)(no:Int) :
  Calls Tryz.prog 77 #[.pointer (some ⟨pw,0,none⟩),.agg #[.int .i64 c.u,.int .i64 c.g],.int .i64 no] w fun e w'=>e=.returned (.tuple #[.string (S.read c no).1,.int .i64 (S.read c no).2])∧Qi w w':=by
 have HO:=Qf (fun w1 (av:Qi w w1)=>qX (h.ak av) hk c no 2 4);have HR:=Qf (show S.read c no=if S.dY c no 2 4=0 then(match S.get no with|none=>(ByteArray.empty,0)|some n=>(n.data,0)) else(ByteArray.empty,S.dY c no 2 4) from rfl);generalize S.read c no=rd at HR⊢;clear h hk;go_enter Tryz.func77,Tryz.ntmps77;go_wp2_with fail;refine(HO.o _ (aq (Below.refl _ _) _)).mono ?_;rintro e w1 ⟨⟨h0,rfl⟩|⟨h0,d,ea,el,ec,hg,rfl,-⟩,av⟩
 ·have HB:=Qf (au (aq (Qj w) _) av);have HE:=Qf (HR.o.trans (if_neg h0));generalize S.dY c no 2 4=oe at HE⊢;unfold An.v cS;clear h0 av;go_wp2_with fail;go_ret2;rw[HE.o];exact⟨rfl,aq HB.o _⟩
 ·have HB:=Qf (au (aq (Qj w) _) av);have HE:=Qf (show rd=(d.data,0) by rw[HR.o,if_pos h0,hg]);unfold An.v;clear h0 av hg;go_wp2_with fail;go_ret2;rw[HE.o];exact⟨rfl,aq HB.o _⟩
end
end
section
open Go.RowKit
theorem uR{w:World}{base base' sz n:Nat}{e:TypeId}{v:Value}{xs:List Value}(h:w.ownsRow base e sz v n xs)(hb:base'≤base):w.ownsRow base' e sz v n xs:=
 ⟨h.1,h.2.imp id fun⟨g,cap,cur,hv,hg,rest⟩=>⟨g,cap,cur,hv,ae hb hg,rest⟩⟩
theorem F9:(Tryz.prog.info? 162).map (fun i=>(i.zero,i.size,i.bytes))=some (some (.agg #[.int .i64 0,.int .i64 0]),2,16):=by kernel_rfl
theorem wI{w:World}{b off n c:Nat}{l:List (Int×Int)}(h:bj w 2 lM (some ⟨b,off,none⟩) n c l)(j:Nat)(u:Value)(hu:(l.flatMap vn)[j]?=some u):w.cell? (Addr.add ⟨b,off,none⟩ j)=some u:=by
 obtain⟨hl,-,-,h0|⟨b',off',he,hb,hel⟩⟩:=h
 ·rw[show l=[] from List.eq_nil_of_length_eq_zero (by omega)] at hu;simp at hu
 ·injection he with he;injection he with e1 e2;subst e1 e2;have hjl:j<l.length*2:=by
   have:=(List.getElem?_eq_some_iff.1 hu).1
   rwa [bW fg] at this
  have hk:j / 2<l.length:=by omega
  obtain⟨cs,h1,h2,h3⟩:=hel (j / 2) hk;unfold lM at h2;subst h2;have h4:=h3 (j % 2) (by rw[fg];omega);have h5:off+j / 2*2+j % 2=off+j:=by omega
  rw[h5] at h4;have h6:(l.flatMap vn)[j]?=(vn l[j / 2])[j % 2]?:=by
   clear h4 h3 hu h1 hel hjl h5 hl hb
   induction l generalizing j with
   |nil=>simp at hk
   |cons x l ih=>
    rw[List.flatMap_cons];by_cases hj:j<2
    ·rw[List.getElem?_append_left (by rw[fg];exact hj)];have e1:j / 2=0:=by omega
     have e2:j % 2=j:=by omega
     simp[e1,e2]
    ·rw[List.getElem?_append_right (by rw[fg];omega),fg];have hk':(j-2) / 2<l.length:=by simp only[List.length_cons] at hk;omega
     rw[ih (j-2) hk'];have e1:j / 2=(j-2) / 2+1:=by omega
     have e2:j % 2=(j-2) % 2:=by omega
     simp[e1,e2]
  rw[h6,List.getElem?_eq_getElem (by rw[fg];omega)] at hu;injection hu with hu;rw[←hu,←h4];by_cases hz:j=0
  ·subst hz;simp[Addr.add]
  ·simp[Addr.add,hz]
section
variable{w w':World}{pf pw:Nat}{R:Rp}{pv:Value}{Y:Sy}
def sy0(b n:Int):Sy:=⟨p7.aH 0 b n,0,0,[],false⟩
theorem EN(b n:Int)(hlim:gl b n=true)(w:World) :
  Calls Tryz.prog 47 #[.int .i64 b,.int .i64 n] w fun e w'=>∃pf pw R,e=.returned (.tuple #[.pointer (some ⟨pf,0,none⟩),.int .i64 0])∧bg w' pf pw R (.slice none 0 0) (sy0 b n)∧Qi w w'∧∀k,R.Y pf pw k→w.heap.size≤k:=by
 have HN:=Qf (Ej b n hlim w);clear hlim;go_enter Tryz.func47,Tryz.ntmps47;go_wp2_with fail;refine HN.o.mono ?_;rintro e w1 ⟨pw,R,rfl,hW,hb,hF⟩;have HX:=Qf (ag hW (ag hb hF));clear hW hb hF;go_wp2_with fail;go_ret2;obtain⟨hW,hb,hF⟩:=HX.o;refine⟨w1.heap.size,pw,R,rfl,⟨aw.new _ _ _,hW.ak ((Below.refl _ _).alloc (aa _) _),⟨rfl,.inl ⟨rfl,rfl⟩⟩⟩,aq hb _,fun k hk=>?_⟩;rcases hk with rfl|hk
 ·exact hb.size
 ·exact hF k hk
theorem BH{W:World}{a:Option Addr}{n c:Nat}{l:List (Int×Int)}(hl:bj W 2 lM a n c l)(hn:l.length≤1000000) :
  ∃v W',(Builtin.append_ #[28,28] 28 #[.slice none 0 0,.slice a n c]).run Tryz.prog W=.ok v W'∧W'.ownsRow W.heap.size 162 2 v l.length (l.flatMap vn)∧Qi W W':=by
 obtain⟨i0,hi,jy,ee,et⟩:=info_parts F9;have hln:=hl.1;have hnil:W.ownsRow W.heap.size 162 2 (.slice none 0 0) 0 []:=⟨rfl,.inl ⟨rfl,rfl⟩⟩;by_cases h0:n=0
 ·subst h0;rw[show l=[] from List.eq_nil_of_length_eq_zero (by omega)];exact⟨_,W,ib _ Tryz.underlying28 hi hnil a c,hnil,Below.refl _ _⟩
 ·obtain⟨b,off,rfl⟩:∃b off,a=some ⟨b,off,none⟩:=by
   obtain⟨-,-,-,h|⟨b,off,h,-⟩⟩:=hl
   ·exact absurd h h0
   ·exact⟨b,off,h⟩
  obtain⟨g,cap,W',h1,h2,h3,h4⟩:=ei 28 Tryz.underlying28 hi jy ee et rfl (by omega) hnil ⟨b,off,none⟩ n c (l.flatMap vn) (by rw[bW fg,hln]) (fun j u hu=>wI hl j u hu)
   (by intro u hu;obtain⟨y,-,hy⟩:=List.mem_flatMap.1 hu;simp[vn] at hy;rcases hy with rfl|rfl<;>rfl) (by omega) (by unfold maxLen;omega) (by omega) (aa _)
  refine⟨_,W',h1,?_,h3.below (fun k hk=>by cases hk) (aa _)⟩;rw[hln];rw[List.nil_append,Nat.zero_add] at h2;rw[Nat.zero_add];exact h2
theorem Cq(h:bg w pf pw R pv Y){a:Option Addr}{n c:Nat}{l:List (Int×Int)}(hl:bj w 2 lM a n c l)(hpa:∀b off,a=some ⟨b,off,none⟩→b≠pf)(hn:l.length≤1000000) :
  Calls Tryz.prog 56 #[.pointer (some ⟨pf,0,none⟩),.slice a n c] w fun e w'=>e=.returned (.tuple #[])∧∃pv',bg w' pf pw R pv' {Y with count:=0,bQ:=l}∧Mod (fun k=>k=pf) w w':=by
 have HN:=Qf (gy h);have HY:=Qf h;have pV:bj (w.setCell ⟨pf,2,none⟩ (.int .i64 0)) 2 lM a n c l:=by
  refine⟨hl.1,hl.2.1,hl.2.2.1,hl.2.2.2.imp id ?_⟩;rintro⟨b,off,rfl,hlt,hel⟩;have hq:=Below.heap_setCell w ⟨pf,2,none⟩ (.int .i64 0) b (hpa b off rfl);refine⟨b,off,rfl,by simpa [World.setCell] using hlt,fun i hi=>?_⟩;obtain⟨cs,h1,h2,h3⟩:=hel i hi;refine⟨cs,h1,h2,fun j hj=>?_⟩;rw[←h3 j hj];simp only[World.cell?,hq]
 obtain⟨v,W,hrun,hown,lK⟩:=BH pV hn;obtain⟨a1,c1,rfl,-,-,-⟩:=bC hown;have eU:=h.aZ.set 2 (.int .i64 0);have mI:=eU.ak lK;have HR:=Qf hrun;have HX:=Qf (ag hown (ag lK mI));obtain⟨pc,pf',pz⟩:=h.aZ.facts;obtain⟨qc,qf,qz⟩:=mI.facts;clear h hl pV hrun hown lK eU mI;go_enter Tryz.func56,Tryz.ntmps56;go_wp2_with (first|(go_at_call 41;((with_reducible refine HN.o.mono ?_);rintro e w1 ⟨rfl,rfl⟩))|(at_builtin;refine aL rfl rfl rfl rfl HR.o ?_))
 go_end0
 obtain⟨hown,lK,mI⟩:=HX.o;have fR:=(Mod.refl (fun k=>k=pf) w).setCell (a:=⟨pf,2,none⟩) (.inl rfl) (.int .i64 0);have hm:=(fR.trans (Mod.ar lK)).setCell (a:=⟨pf,3,none⟩) (.inl rfl) (.slice a1 l.length c1);have hlt:pf<(w.setCell ⟨pf,2,none⟩ (.int .i64 0)).heap.size:=by simpa [World.setCell] using HY.o.aZ.lt
 refine⟨rfl,.slice a1 l.length c1,⟨mI.set 3 _,HY.o.wd.mod hm (fun k o hk ho=>?_),?_⟩,hm⟩
 ·subst hk;have hb:=HY.o.aZ;unfold aw at hb;rw[hb] at ho;injection ho with ho;subst ho;exact⟨rfl,fun cur e=>by cases e⟩
 ·refine uR (bI hown ((Mod.refl (fun k=>k=pf) W).setCell (a:=⟨pf,3,none⟩) (.inl rfl) _) (fun k hk he=>?_)) (Nat.zero_le _);subst hk;have:=(aD hown he).1;omega
def Sy.NK(Y:Sy):Sy:={Y with count:=0,bQ:=[],dead:=false}
theorem Cj(h:bg w pf pw R pv Y) :
  Calls Tryz.prog 54 #[.pointer (some ⟨pf,0,none⟩)] w fun e w'=>e=.returned (.tuple #[])∧∃pv',bg w' pf pw R pv' Y.NK∧Mod (fun k=>k=pf) w w':=by
 have HN:=Qf (gy h);have fR:=(Mod.refl (fun k=>k=pf) w).setCell (a:=⟨pf,4,none⟩) (.inl rfl) (.bool false);have eF:=h.sZ fR (Z:={Y with dead:=false}) rfl rfl (h.aZ.set 4 (.bool false));have HP:=Qf (Cq eF (a:=none) (n:=0) (c:=0) (l:=[]) ⟨rfl,aa _,by omega,.inl rfl⟩ (fun b off h=>by cases h) (Nat.zero_le _));have HM:=Qf fR;obtain⟨pc,pf',pz⟩:=h.aZ.facts;clear h fR eF;go_enter Tryz.func54,Tryz.ntmps54;go_wp2_with fail;refine HN.o.mono ?_;rintro e w1 ⟨rfl,rfl⟩;go_wp2_with fail;refine HP.o.mono ?_;rintro e w2 ⟨rfl,pv',u',nS⟩;have HX:=Qf (ag u' nS);clear u' nS;go_wp2_with fail
 go_end0
 exact⟨rfl,pv',HX.o.1,HM.o.trans HX.o.2⟩
end
end
section
open Go.RowKit
theorem lY{tmps:Array Value}{W:World}{B:Nat}{y0 y1 y2 y3 y4 y5 y6 y7 y8 y9 e:Int}(hb:aw W B #[.int .i64 y0,.int .i64 y1,.int .i64 y2,.int .i64 y3,.int .i64 y4,.int .i64 y5,.int .i64 y6,.int .i64 y7,.int .i64 y8,.int .i64 y9] 67)
  (h8:tmps.getD 4 undef=.pointer (some ⟨B,0,none⟩)) (h9:tmps.getD 5 undef=.int .i64 e):(results Tryz.f14 tmps).run Tryz.prog W=.ok (.tuple #[.agg #[.int .i64 y0,.int .i64 y1,.int .i64 y2,.int .i64 y3,.int .i64 y4,.int .i64 y5,.int .i64 y6,.int .i64 y7,.int .i64 y8,.int .i64 y9],.int .i64 e]) W:=by
 have q0:=hb.cell 0;have q1:=hb.cell 1;have q2:=hb.cell 2;have q3:=hb.cell 3;have q4:=hb.cell 4;have q5:=hb.cell 5;have q6:=hb.cell 6;have q7:=hb.cell 7;have q8:=hb.cell 8;have q9:=hb.cell 9;rw[Array.getD_eq_getD_getElem?] at h8 h9;simp[results,Tryz.results14,go_sem,h8,h9,q0,q1,q2,q3,q4,q5,q6,q7,q8,q9]
section
variable{w w':World}{pf pw:Nat}{R:Rp}{pv:Value}{Y:Sy}
theorem iv(h:bg w pf pw R pv Y){N:Nat}(hk:ax Y.fs N)(hd:Y.dead=false)(no:Int) :
  Calls Tryz.prog 14 #[.pointer (some ⟨pf,0,none⟩),.int .i64 no] w fun e w'=>e=.returned (.tuple #[Cp (Y.fs.get no),.int .i64 (ep (Y.fs.get no))])∧Qi w w':=by
 obtain⟨eu,aI⟩:=Qh w #[.int .i64 0,.int .i64 0,.int .i64 0,.int .i64 0,.int .i64 0,.int .i64 0,.int .i64 0,.int .i64 0,.int .i64 0,.int .i64 0] 67;have HR:=Qf (fun w1 (av:Qi w w1)=>gx (h.ak av));rw[hd] at HR;have HS:=Qf (fun w1 (av:Qi w w1)=>EK (h.wd.ak av) hk no);obtain⟨pc,-,pz⟩:=h.aZ.facts;have lP:=Qf (fun w1 (av:Qi w w1)=>show w1.cell? ⟨pf,0,none⟩=some (.pointer (some ⟨pw,0,none⟩)) from(av.cell (p:=⟨pf,0,none⟩) pz).trans (pc 0));clear h hk hd pc pz
 cases hg:Y.fs.get no with
 |none=>
  rw[hg] at HS;unfold Cp ep at HS⊢;clear hg;go_enter Tryz.func14,Tryz.ntmps14;go_wp2_with fail;refine(HR.o _ aI).mono ?_;rintro e w1 ⟨rfl,rfl⟩;generalize w.alloc _=W0 at eu aI⊢;have gd:=Qf eu;have aW:=Qf aI;have pc0:=lP.o _ aI;clear eu aI;go_wp2_with fail;refine(HS.o _ aW.o).mono ?_;rintro e w1 ⟨rfl,av⟩;have mG:=gd.o.ak av;have zj:=Qf mG;have lS:=Qf (aW.o.trans (av.mono aW.o.size));obtain⟨rc,rf,rz⟩:=mG.facts;clear mG av;go_wp2_with fail;exact bodyPost_ret (lY zj.o.Be rfl rfl) rfl ⟨rfl,jg lS.o (aa _)⟩
 |some d=>
  rw[hg] at HS;unfold Cp ep at HS⊢;clear hg;go_enter Tryz.func14,Tryz.ntmps14;go_wp2_with fail;refine(HR.o _ aI).mono ?_;rintro e w1 ⟨rfl,rfl⟩;generalize w.alloc _=W0 at eu aI⊢;have gd:=Qf eu;have aW:=Qf aI;have pc0:=lP.o _ aI;clear eu aI;go_wp2_with fail;refine(HS.o _ aW.o).mono ?_;rintro e w1 ⟨rfl,av⟩;have mG:=gd.o.ak av;have zj:=Qf mG;have lS:=Qf (aW.o.trans (av.mono aW.o.size));obtain⟨rc,rf,rz⟩:=mG.facts;clear mG av;go_wp2_with fail;exact bodyPost_ret (lY zj.o.Be rfl rfl) rfl ⟨rfl,jg lS.o (aa _)⟩
theorem zC(h:bg w pf pw R pv Y){N:Nat}(hk:ax Y.fs N)(hd:Y.dead=false)(c:Cr)(no:Int) :
  Calls Tryz.prog 40 #[.pointer (some ⟨pf,0,none⟩),.agg #[.int .i64 c.u,.int .i64 c.g],.int .i64 no] w fun e w'=>e=.returned (.tuple #[.string (Y.fs.read c no).1,.int .i64 (Y.fs.read c no).2])∧Qi w w':=by
 obtain⟨gp,aI⟩:=Qh w #[.int .i64 c.u,.int .i64 c.g] 64;have HR:=Qf (fun w1 (av:Qi w w1)=>gx (h.ak av));rw[hd] at HR;have HS:=Qf (fun w1 (av:Qi w w1)=>CQ (h.wd.ak av) hk c no);obtain⟨pc,-,pz⟩:=h.aZ.facts;have lP:=Qf (fun w1 (av:Qi w w1)=>show w1.cell? ⟨pf,0,none⟩=some (.pointer (some ⟨pw,0,none⟩)) from(av.cell (p:=⟨pf,0,none⟩) pz).trans (pc 0));have mixed:Tryz.prog.follows .mixedOrders=true:=by kernel_rfl
 generalize Y.fs.read c no=rd at HS⊢;clear h hk hd pc pz;go_enter Tryz.func40,Tryz.ntmps40;go_wp2_with fail;refine(HR.o _ aI).mono ?_;rintro e w1 ⟨rfl,rfl⟩;generalize w.alloc _=W0 at gp aI⊢;have aW:=Qf aI;have pc0:=lP.o _ aI;obtain⟨cc,-,cz⟩:=gp.facts;clear gp aI;go_wp2_with fail;refine aG 6 mixed (by kernel_rfl) (show bL _ from by repeat (first|exact cG|refine cF ?_|refine bR ?_|refine cd ?_)) ?_;simp only[List.take_succ_cons,List.take_zero,List.drop_succ_cons,List.drop_zero]
 repeat still_step
 refine wpStill_nil ?_;go_wp2_with fail;refine(HS.o _ aW.o.drew).mono ?_;rintro e w1 ⟨rfl,av⟩;have HB:=Qf (aW.o.drew.trans (av.mono aW.o.size));clear av;go_wp2_with fail;go_ret2;exact⟨rfl,HB.o⟩
end
end
section
open Go.RowKit
def saR(cs:List Value)(x:List UInt8):Prop:=cs=pI x
def SA(w:World)(a:Option Addr)(n c:Nat)(l:List (List UInt8)):Prop:=bj w 1 saR a n c l
theorem SA.len{w:World}{a:Option Addr}{n c:Nat}{l:List (List UInt8)}(h:SA w a n c l):l.length=n:=h.1
theorem SA.uZ{w:World}{base c:Nat}{a:Option Addr}{l:List (List UInt8)}(h:OS w base (.slice a l.length c) l):SA w a l.length c l:=eo (R:=saR) (by omega) nD (fun _=>rfl) h
theorem SA.cell{w:World}{a:Option Addr}{n c:Nat}{l:List (List UInt8)}(h:SA w a n c l){b off:Nat}(ha:a=some ⟨b,off,none⟩)(k:Nat)(hk:k<l.length):w.cell? ⟨b,off+k,none⟩=some (.string (str l[k])):=by
 obtain⟨h1,-,-,h0|⟨b',off',he,hb,hel⟩⟩:=h
 ·omega
 ·rw[ha] at he;injection he with he;injection he with e1 e2;subst e1 e2;obtain⟨cs,h1,h2,h3⟩:=hel k hk;subst h2;have:=h3 0 (by simp[pI]);rw[Nat.mul_one,Nat.add_zero] at this;exact this
theorem SA.dL{w:World}{a:Option Addr}{n c:Nat}{l:List (List UInt8)}(h:SA w a n c l)(hn:0<n):∃b off,a=some ⟨b,off,none⟩∧b<w.heap.size:=by
 obtain⟨h1,-,-,h0|⟨b',off',he,hb,hel⟩⟩:=h
 ·omega
 ·exact⟨b',off',he,hb⟩
theorem SA.ak{w w':World}{a:Option Addr}{n c:Nat}{l:List (List UInt8)}(h:SA w a n c l)(hb:Qi w w'):SA w' a n c l:=by
 refine⟨h.1,h.2.1,h.2.2.1,h.2.2.2.imp id ?_⟩;rintro⟨b,off,rfl,hlt,hel⟩;refine⟨b,off,rfl,Nat.lt_of_lt_of_le hlt hb.size,fun i hi=>?_⟩;obtain⟨cs,h1,h2,h3⟩:=hel i hi;exact⟨cs,h1,h2,fun j hj=>(hb.cell (p:=⟨b,_,none⟩) hlt).trans (h3 j hj)⟩
theorem SA.kv{w:World}{a:Option Addr}{n c:Nat}{l:List (List UInt8)}(h:SA w a n c l){B:Nat}(hB:∀b off,a=some ⟨b,off,none⟩→b≠B)(i:Nat)(v:Value):SA (w.setCell ⟨B,i,none⟩ v) a n c l:=by
 refine⟨h.1,h.2.1,h.2.2.1,h.2.2.2.imp id ?_⟩;rintro⟨b,off,rfl,hlt,hel⟩;have hq:=Below.heap_setCell w ⟨B,i,none⟩ v b (hB b off rfl);refine⟨b,off,rfl,by simpa [World.setCell] using hlt,fun i hi=>?_⟩;obtain⟨cs,h1,h2,h3⟩:=hel i hi;refine⟨cs,h1,h2,fun j hj=>?_⟩;rw[←h3 j hj];simp only[World.cell?,hq]
theorem SA.tail{w:World}{a:Option Addr}{n c:Nat}{x:List UInt8}{l:List (List UInt8)}(h:SA w a n c (x::l)){b off:Nat}(ha:a=some ⟨b,off,none⟩):SA w (if c=1 then a else some ⟨b,off+1,none⟩) (n-1) (c-1) l:=by
 have hl:=h.1;obtain⟨-,h1,h2,h0|⟨b',off',he,hb,hel⟩⟩:=h
 ·simp at hl;omega
 ·rw[ha] at he;injection he with he;injection he with e1 e2;subst e1 e2;have hl':l.length=n-1:=by simp at hl;omega
  have nR:1≤n:=by rw[←hl];simp
  refine⟨hl',by omega,by omega,?_⟩;by_cases hn:n=1
  ·exact .inl (by omega)
  ·refine .inr ⟨b,off+1,by rw[if_neg (by omega)],hb,fun i hi=>?_⟩;obtain⟨cs,h3,h4,h5⟩:=hel (i+1) (by simp;omega);refine⟨cs,h3,by simpa using h4,fun j hj=>?_⟩;rw[←h5 j hj];congr 2;omega
theorem uI{w:World}{base:Nat}{v:Value}{ps:List (List UInt8)}{a:Option Addr}{n c:Nat}{l:List (List UInt8)}(hO:OS w base v ps)(hS:SA w a n c l)(hl:ps.length+l.length≤1000000)(hbase:base≤w.heap.size) :
  ∃a' n' c' W,(Builtin.append_ #[240,240] 240 #[v,.slice a n c]).run Tryz.prog w=.ok (.slice a' n' c') W∧SA W a' n' c' (ps++l)∧(∀b off,a'=some ⟨b,off,none⟩→base≤b)∧Below base w W:=by
 obtain⟨i0,hi,jy,ee,et⟩:=info_parts qy;have hln:=hS.len
 cases l with
 |nil=>
  obtain rfl:n=0:=by simpa using hln.symm
  obtain⟨a1,c1,rfl,-,-,hf⟩:=bC hO;refine⟨a1,ps.length,c1,w,ib _ Tryz.underlying240 hi hO a c,?_,?_,Below.refl _ _⟩
  ·rw[List.append_nil];exact SA.uZ hO
  ·rintro b off rfl;rcases hf with⟨h,-⟩|⟨g,h,hb,-⟩
   ·cases h
   ·injection h with h;injection h with h1 h2;omega
 |cons x l=>
  have hn:0<n:=by rw[←hln];simp
  obtain⟨b,off,rfl,hb⟩:=hS.dL hn;obtain⟨g,cap,W,h1,h2,h3,h4⟩:=ei 240 Tryz.underlying240 hi jy ee et rfl (by omega) hO ⟨b,off,none⟩ n c ((x::l).flatMap pI) (by rw[bW nD,hln])
   (fun j u hu=>by
    have he:(x::l).flatMap pI=(x::l).map (fun y=>Value.string (str y)):=by
     generalize (x::l)=m
     induction m with
     |nil=>rfl
     |cons y m ih=>simp only[List.flatMap_cons,pI,List.map_cons,ih];rfl
    rw[he,List.getElem?_map] at hu;obtain⟨y,hy,rfl⟩:=Option.map_eq_some_iff.1 hu;obtain⟨hj,rfl⟩:=List.getElem?_eq_some_iff.1 hy;have:=hS.cell rfl j hj;by_cases h0:j=0
    ·subst h0;simpa [Addr.add] using this
    ·simpa [Addr.add,h0] using this)
   (by intro u hu;obtain⟨y,-,hy⟩:=List.mem_flatMap.1 hu;simp[pI] at hy;subst hy;rfl) hn (by unfold maxLen;omega) (by omega) hbase
  have kA:OS W base (.slice (some ⟨g,0,none⟩) (ps++x::l).length cap) (ps++x::l):=by
   unfold OS;rw[List.length_append,List.flatMap_append,hln];exact h2
  refine⟨_,_,_,W,h1,?_,?_,h3.below (fun k hk=>(hO.lt k hk).1) hbase⟩
  ·have:=SA.uZ kA
   rwa [List.length_append,hln] at this
  ·rintro b' off' h;injection h with h;injection h with h;subst h;exact(iI h2).2.1
def eI(w:World)(Bt pw:Nat)(c:Cr)(k:Int)(ta:Option Addr)(tl tc:Nat)(hops:Int)(must:Bool):Prop:=
 aw w Bt #[.pointer (some ⟨pw,0,none⟩),.int .i64 c.u,.int .i64 c.g,.int .i64 k,.slice ta tl tc,.int .i64 hops,.bool must] 262
theorem DR{B:Nat}{w w':World}(h:Qi w w'):Mod (fun k=>k=B) w w':=Mod.ar h
def FlP(w:World)(Bt pw:Nat)(c:Cr)(k hops:Int)(must:Bool)(l:List (List UInt8))(s:ByteArray)(e:Ending)(w':World):Prop:=
 Mod (fun k=>k=Bt) w w'∧
   ((8<hops+1∧e=.returned (.int .i64 12))∨(hops+1≤8∧s.data.toList=[]∧e=.returned (.int .i64 5))∨
    (hops+1≤8∧s.data.toList≠[]∧e=.returned (.int .i64 0)∧∃ta' tl' tc',eI w' Bt pw c (if s.data.toList.head?=some 47 then 1 else k) ta' tl' tc' (hops+1) (if l=[] then must||eD s.data.toList else must)∧
     SA w' ta' tl' tc' (bF s.data.toList++l)∧∀b off,ta'=some ⟨b,off,none⟩→w.heap.size≤b))
theorem AG{w:World}{Bt pw:Nat}{c:Cr}{k:Int}{ta:Option Addr}{tl tc:Nat}{hops:Int}{must:Bool}(hb:eI w Bt pw c k ta tl tc hops must){l:List (List UInt8)}(hl:SA w ta tl tc l)(hta:∀b off,ta=some ⟨b,off,none⟩→b≠Bt)(s:ByteArray)(hs:s.size≤4096)(hll:l.length≤900000)(hh:0≤hops∧hops≤100) :
  Calls Tryz.prog 164 #[.pointer (some ⟨Bt,0,none⟩),.string s] w fun e w'=>FlP w Bt pw c k hops must l s e w':=by
 unfold eI at hb;have HB:=Qf hb;have HL:=Qf hl;obtain⟨bc,bf,bz⟩:=hb.facts;obtain⟨hh0,IZ⟩:=hh;have hlen:=hl.len;have htl:tl≤900000:=by omega
 have JL:=Qf hta;have PX:=Qf hlen;clear hb hl hta hlen;by_cases h1:8<hops+1
 ·have M4:(8:Int)<hops+1:=h1;have Jr:(7:Int)<hops:=by omega
  have h1c:(8:Int)≤hops:=by omega
  go_enter Tryz.func164,Tryz.ntmps164;go_wp2_with fail;go_ret;exact⟨(Mod.refl (fun k=>k=Bt) w).setCell (a:=⟨Bt,5,none⟩) (.inl rfl) _,.inl ⟨h1,rfl⟩⟩
 ·have kq:hops+1≤8:=by omega
  have h2a:hops≤7:=by omega
  by_cases h3:s.data.toList=[]
  ·have rH:s.toList=[]:=by rw[bG];exact h3
   have HE:=Qf h3;clear h1 h3;go_enter Tryz.func164,Tryz.ntmps164;go_wp2_with fail;go_ret;exact⟨(Mod.refl (fun k=>k=Bt) w).setCell (a:=⟨Bt,5,none⟩) (.inl rfl) _,.inr (.inl ⟨kq,HE.o,rfl⟩)⟩
  ·have rH:s.toList.isEmpty=false:=by rw[bG];simpa using h3
   have sm:0<s.size:=by
    have:s.data.toList.length=s.size:=Array.length_toList;rcases Nat.eq_zero_or_pos s.size with h|h
    ·exact absurd (List.eq_nil_of_length_eq_zero (by omega)) h3
    ·exact h
   have HE:=Qf h3;have hhd:s.data.toList.head?=some s[0]:=by
    rw[List.head?_eq_getElem?,List.getElem?_eq_getElem (by rw[Array.length_toList];exact sm)];rfl
   obtain⟨at2,ON⟩:∃x:Int,x=if s.data.toList.head?=some 47 then 1 else k:=⟨_,rfl⟩;have Eh:=Qf ON;have Mg:=Qf hhd;have h1n:¬(8:Int)<hops+1:=h1;clear h1 h3 ON hhd;go_enter Tryz.func164,Tryz.ntmps164;go_upto_if 21 with fail
   go_cut [] (fun wx=>eI wx Bt pw c at2 ta tl tc (hops+1) must∧SA wx ta tl tc l∧Mod (fun k=>k=Bt) w wx)
   case first=>
    by_cases oB:s[0]=47
    ·have iS:((s[0].toNat:Int)==47)=true:=by rw[oB];rfl
     have nP:=Qf (show at2=1 by rw[Eh.o,Mg.o,oB];rfl);clear oB;go_wp2_with fail;go_meet;rw[nP.o];exact⟨(HB.o.set 5 _).set 3 _,(HL.o.kv JL.o 5 _).kv JL.o 3 _,((Mod.refl (fun k=>k=Bt) w).setCell (a:=⟨Bt,5,none⟩) (.inl rfl) _).setCell (a:=⟨Bt,3,none⟩) (.inl rfl) _⟩
    ·have iS:((s[0].toNat:Int)==47)=false:=by
      simp only[beq_eq_false_iff_ne,ne_eq];intro h;exact oB (by rw[lV];show s[0].toNat=47;omega)
     have nP:=Qf (show at2=k by rw[Eh.o,Mg.o,if_neg (by intro e;injection e with e;exact oB e)]);clear oB;go_wp2_with fail;go_meet;rw[nP.o];exact⟨HB.o.set 5 _,HL.o.kv JL.o 5 _,(Mod.refl (fun k=>k=Bt) w).setCell (a:=⟨Bt,5,none⟩) (.inl rfl) _⟩
   case rest=>
    obtain⟨hb,hl,hm⟩:=hcut;generalize wc=wa at hb hl hm⊢;unfold eI at hb;have dO:=Qf hb;have Kz:=Qf hl;have yP:=Qf hm;have K6:=hm.size;obtain⟨m2,nS⟩:∃x:Bool,x=if l=[] then must||eD s.data.toList else must:=⟨_,rfl⟩;have p':=Qf nS;have G4:=Qf (fun w=>s9 s w (by omega));clear bc bf bz;obtain⟨bc,bf,bz⟩:=hb.facts;clear hb hl hm nS;generalize hsl:eD s.data.toList=sl at G4 p';have HSLe:=Qf hsl;clear hsl;go_upto_if 30 with fail
    go_cut [] (fun wx=>eI wx Bt pw c at2 ta tl tc (hops+1) m2∧SA wx ta tl tc l∧Mod (fun k=>k=Bt) w wx)
    case first=>
     by_cases eR:l=[]
     ·have nP:=Qf (show m2=(must||sl) by rw[p'.o,if_pos eR]);have xI:tl=0:=by rw[←PX.o,eR];rfl
      subst xI;clear eR
      cases must with
      |true=>
       go_wp2_with fail;go_meet;rw[nP.o];exact⟨dO.o.set 6 _,Kz.o.kv JL.o 6 _,yP.o.setCell (a:=⟨Bt,6,none⟩) (.inl rfl) _⟩
      |false=>
       go_wp2_with (refine(G4.o _).mono ?_;rintro e w1 ⟨rfl,rfl⟩);go_meet;rw[nP.o];exact⟨dO.o.set 6 _,Kz.o.kv JL.o 6 _,yP.o.setCell (a:=⟨Bt,6,none⟩) (.inl rfl) _⟩
     ·have nP:=Qf (show m2=must by rw[p'.o,if_neg eR]);have xI:0<tl:=by rw[←PX.o];exact List.length_pos_iff.2 eR
      have GW:((tl:Int)==0)=false:=by simp;omega
      clear eR;go_wp2_with fail;go_meet;rw[nP.o];exact⟨dO.o,Kz.o,yP.o⟩
    case rest=>
     obtain⟨hb,hl,hm⟩:=hcut;generalize wc=wb at hb hl hm⊢;unfold eI at hb;have dS:=Qf hb;have PY:=Qf hl;have Hc:=Qf hm;have HPs:=Qf (fun w=>qZ s w);have Hh:=Qf (show Calls Tryz.prog 160 #[.func (.func 191) #[] #[.pointer (some ⟨wb.heap.size,0,none⟩)]] (wb.alloc (.cells #[.string s] 9)).drew (fun e w'=>(∃v,e=.returned v∧OS w' wb.heap.size v (bF s.data.toList))∧Qi wb w') from(nh s (by omega) wb.drew).mono (fun e w' h=>⟨h.1,(Below.refl _ _).drew.trans h.2⟩));have jz:=Qf (show(bF s.data.toList).length+l.length≤1000000 by
      have h1:=iy s.data.toList;have h2:s.data.toList.length=s.size:=Array.length_toList;omega)
     clear bc bf bz;obtain⟨bc,bf,bz⟩:=hb.facts;clear hb hl hm;go_wp2_with fail;have mixed:Tryz.prog.follows .mixedOrders=true:=by kernel_rfl
     go_region_law_o (first
      |(refine jY rfl rfl rfl rfl hrun ?_)
      |(go_simp;go_at_call 161;((with_reducible refine(HPs.o _).mono ?_);rintro e w3 ⟨rfl,rfl⟩))
      |(go_simp;go_at_call 160;((with_reducible refine Hh.o.mono ?_);rintro e w4 ⟨⟨v,rfl,vU⟩,FL⟩;have k4:=dS.o.ak FL;obtain⟨a',n',c',W,hrun,pY,hab,mI⟩:=uI vU (PY.o.ak FL) jz.o FL.size;have kW:=k4.l4 mI dS.o.lt;obtain⟨c4,f4,z4⟩:=k4.facts;obtain⟨cW,fW,zW⟩:=kW.facts;have HX:=Qf (ag pY (ag hab (ag kW (FL.trans mI))));clear pY hab kW k4 FL mI vU)))
     all_goals
      go_wp2_with fail;go_ret;obtain⟨pY,hab,kW,lK⟩:=HX.o;refine⟨Hc.o.trans ((DR lK).setCell (a:=⟨Bt,4,none⟩) (.inl rfl) _),.inr (.inr ⟨kq,HE.o,rfl,a',n',c',?_,pY.kv (fun b off h=>by have q1:=hab b off h;have q2:=dS.o.lt;omega) 4 _,fun b off h=>ae Hc.o.size (hab b off h)⟩)⟩;rw[←Eh.o,HSLe.o,←p'.o];exact kW.set 4 _
end
end Go.Proofs.YtabbjaomlmnnhaaGreat
