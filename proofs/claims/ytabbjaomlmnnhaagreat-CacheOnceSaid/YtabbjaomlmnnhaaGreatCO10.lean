import Derived.Deep.CutBlock
import Derived.Deep.DeepCutAuto
import Derived.RegionTactic
import Derived.BigRegion
import Derived.Test.YtabbjaomlmnnhaaGreatCO9
import Derived.Test.YtabbjaomlmnnhaaGreatCO7
set_option linter.unusedVariables false
set_option linter.unusedSimpArgs false
set_option maxRecDepth 100000
set_option maxHeartbeats 16000000
namespace Go.Proofs.YtabbjaomlmnnhaaGreat
open Go.Value renaming int→UE,string→UF,slice→UG,pointer→UH,agg→UJ,tuple→UK
open Go.IntKind renaming i64→UL
section
open Go.RowKit
theorem dy(Y:Sy):Y.change.1.fs=Y.fs∧Y.change.1.now=Y.now∧Y.change.1.cC=Y.cC:=by
 unfold Sy.change
 split
 ·exact⟨rfl,rfl,rfl⟩
 ·split<;>exact⟨rfl,rfl,rfl⟩
def Sy.op(Y:Sy)(g:Fs→Int→Fs×Int×Int):Sy×Int×Int:=
 if Y.change.2≠0 then(Y.change.1,0,Y.change.2) else({Y.change.1 with fs:=(g Y.fs Y.now).1},(g Y.fs Y.now).2)
def Sy.fN(Y:Sy)(g:Fs→Int→Fs×Int):Sy×Int:=
 if Y.change.2≠0 then(Y.change.1,Y.change.2) else({Y.change.1 with fs:=(g Y.fs Y.now).1},(g Y.fs Y.now).2)
section
variable{w w':World}{pf pw:Nat}{R:Rp}{pv:Value}{Y:Sy}
theorem k7(h:bm w pf pw R pv Y){N:Nat}(hk:ay Y.fs N)(hN:N≤999999)(hc:0≤Y.count∧Y.count≤4611686018427387904)(hl:Y.cC.length≤1000000)(c:Cr)(dir:Int)(s:ByteArray)(mode:Int)(hs:s.size≤9223372036854775807) :
  Calls Tryz.prog 27 #[UH (some ⟨pf,0,none⟩),UJ #[UE UL c.u,UE UL c.g],UE UL dir,UF s,UE UL mode] w fun e w'=>
   e=.returned (UK #[UE UL (Y.op (fun S now=>S.aN c now dir s mode)).2.1,UE UL (Y.op (fun S now=>S.aN c now dir s mode)).2.2])∧∃R',bm w' pf pw R' pv (Y.op (fun S now=>S.aN c now dir s mode)).1∧aS (R.Y pf pw) (R'.Y pf pw) w w':=by
 have HY:=Ux h;have HC:=Ux (fA (h.an ((Below.refl _ w).alloc (aa _) (.cells #[UE UL c.u,UE UL c.g] 64))) hc hl);obtain⟨iM,ja,wq⟩:=dy Y;have HF:=Ux (ag iM ja);have hpf:=h.bD.lt;have gv:ay Y.change.1.fs N:=by rw[iM];exact hk
 have mixed:Tryz.prog.follows .mixedOrders=true:=by kernel_rfl
 clear h hk iM ja wq;go_enter Tryz.func27,Tryz.ntmps27;go_wp2_with fail;refine HC.o.mono ?_;rintro e w1 ⟨rfl,eV,fQ⟩;have iZ:=Ux ((gR (aS.aq (F:=R.F pw) (ao (UB w) (.cells #[UE UL c.u,UE UL c.g] 64)))).trans (uN (pw:=pw) (R:=R) fQ));by_cases h0:Y.change.2=0
 ·have nD:(Y.change.2==0)=true:=by simpa using h0
  have HE:=Ux (show Y.op (fun S now=>S.aN c now dir s mode)=_ from if_neg (by simp[h0]));have hcr:=(ax.new w #[UE UL c.u,UE UL c.g] 64).mod fQ (by omega);obtain⟨cc,-,cz⟩:=hcr.facts;obtain⟨pc,-,pz⟩:=eV.bD.facts;have HD:=Ux (M4 (eV.wd.an (Below.refl _ w1).drew) gv hN c Y.change.1.now dir s hs mode);have lK:=Ux eV;clear h0 hcr eV fQ;go_wp2_with fail;refine aG 12 mixed (by kernel_rfl) (show cn _ from by repeat (first|exact cS|refine cR ?_|refine cx ?_|refine cG ?_)) ?_;simp only[List.take_succ_cons,List.take_zero,List.drop_succ_cons,List.drop_zero]
  repeat still_step
  refine wpStill_nil ?_;go_wp2_with fail;refine HD.o.mono ?_;rintro e w5 ⟨rfl,R5,iq,eW⟩;have BA:=Ux ((lK.o.an (Below.refl _ w1).drew).step iq eW);have uD:=Ux ((iZ.o.trans (gR (aS.aq (F:=R.F pw) (Below.refl _ w1).drew))).trans (gR eW));clear iq eW;go_wp2_with fail;go_ret2;rw[HE.o,HF.o.1.symm,HF.o.2.symm];exact⟨rfl,R5,BA.o,uD.o⟩
 ·have nD:(Y.change.2==0)=false:=by simpa using h0
  have HE:=Ux (show Y.op (fun S now=>S.aN c now dir s mode)=_ from if_pos h0);have lK:=Ux eV;clear eV h0 fQ;generalize Y.change.2=ce at HE nD⊢;go_wp2_with fail;go_ret2;rw[HE.o];exact⟨rfl,R,lK.o,iZ.o⟩
theorem fS(h:bm w pf pw R pv Y){N:Nat}(hk:ay Y.fs N)(hN:N≤999999)(hc:0≤Y.count∧Y.count≤4611686018427387904)(hl:Y.cC.length≤1000000)(c:Cr)(dir:Int)(s:ByteArray)(mode:Int)(data:ByteArray)(hs:s.size≤9223372036854775807)(hdata:data.size≤9223372036854775807) :
  Calls Tryz.prog 16 #[UH (some ⟨pf,0,none⟩),UJ #[UE UL c.u,UE UL c.g],UE UL dir,UF s,UE UL mode,UF data] w fun e w'=>
   e=.returned (UK #[UE UL (Y.op (fun S now=>S.file c now dir s mode data)).2.1,UE UL (Y.op (fun S now=>S.file c now dir s mode data)).2.2])∧∃R',bm w' pf pw R' pv (Y.op (fun S now=>S.file c now dir s mode data)).1∧aS (R.Y pf pw) (R'.Y pf pw) w w':=by
 have HY:=Ux h;have HC:=Ux (fA (h.an ((Below.refl _ w).alloc (aa _) (.cells #[UE UL c.u,UE UL c.g] 64))) hc hl);obtain⟨iM,ja,wq⟩:=dy Y;have HF:=Ux (ag iM ja);have hpf:=h.bD.lt;have gv:ay Y.change.1.fs N:=by rw[iM];exact hk
 have mixed:Tryz.prog.follows .mixedOrders=true:=by kernel_rfl
 clear h hk iM ja wq;go_enter Tryz.func16,Tryz.ntmps16;go_wp2_with fail;refine HC.o.mono ?_;rintro e w1 ⟨rfl,eV,fQ⟩;have iZ:=Ux ((gR (aS.aq (F:=R.F pw) (ao (UB w) (.cells #[UE UL c.u,UE UL c.g] 64)))).trans (uN (pw:=pw) (R:=R) fQ));by_cases h0:Y.change.2=0
 ·have nD:(Y.change.2==0)=true:=by simpa using h0
  have HE:=Ux (show Y.op (fun S now=>S.file c now dir s mode data)=_ from if_neg (by simp[h0]));have hcr:=(ax.new w #[UE UL c.u,UE UL c.g] 64).mod fQ (by omega);obtain⟨cc,-,cz⟩:=hcr.facts;obtain⟨pc,-,pz⟩:=eV.bD.facts;have HD:=Ux (JZ (eV.wd.an (Below.refl _ w1).drew) gv hN c Y.change.1.now dir s hs mode data hdata);have lK:=Ux eV;clear h0 hcr eV fQ;go_wp2_with fail;refine aG 13 mixed (by kernel_rfl) (show cn _ from by repeat (first|exact cS|refine cR ?_|refine cx ?_|refine cG ?_)) ?_;simp only[List.take_succ_cons,List.take_zero,List.drop_succ_cons,List.drop_zero]
  repeat still_step
  refine wpStill_nil ?_;go_wp2_with fail;refine HD.o.mono ?_;rintro e w5 ⟨rfl,R5,iq,eW⟩;have BA:=Ux ((lK.o.an (Below.refl _ w1).drew).step iq eW);have uD:=Ux ((iZ.o.trans (gR (aS.aq (F:=R.F pw) (Below.refl _ w1).drew))).trans (gR eW));clear iq eW;go_wp2_with fail;go_ret2;rw[HE.o,HF.o.1.symm,HF.o.2.symm];exact⟨rfl,R5,BA.o,uD.o⟩
 ·have nD:(Y.change.2==0)=false:=by simpa using h0
  have HE:=Ux (show Y.op (fun S now=>S.file c now dir s mode data)=_ from if_pos h0);have lK:=Ux eV;clear eV h0 fQ;generalize Y.change.2=ce at HE nD⊢;go_wp2_with fail;go_ret2;rw[HE.o];exact⟨rfl,R,lK.o,iZ.o⟩
theorem IC(h:bm w pf pw R pv Y){N:Nat}(hk:ay Y.fs N)(hN:N≤999999)(hc:0≤Y.count∧Y.count≤4611686018427387904)(hl:Y.cC.length≤1000000)(c:Cr)(dir:Int)(s:ByteArray)(text:ByteArray)(hs:s.size≤9223372036854775807)(htext:text.size≤9223372036854775807) :
  Calls Tryz.prog 86 #[UH (some ⟨pf,0,none⟩),UJ #[UE UL c.u,UE UL c.g],UE UL dir,UF s,UF text] w fun e w'=>
   e=.returned (UK #[UE UL (Y.op (fun S now=>S.sym c now dir s text)).2.1,UE UL (Y.op (fun S now=>S.sym c now dir s text)).2.2])∧∃R',bm w' pf pw R' pv (Y.op (fun S now=>S.sym c now dir s text)).1∧aS (R.Y pf pw) (R'.Y pf pw) w w':=by
 have HY:=Ux h;have HC:=Ux (fA (h.an ((Below.refl _ w).alloc (aa _) (.cells #[UE UL c.u,UE UL c.g] 64))) hc hl);obtain⟨iM,ja,wq⟩:=dy Y;have HF:=Ux (ag iM ja);have hpf:=h.bD.lt;have gv:ay Y.change.1.fs N:=by rw[iM];exact hk
 have mixed:Tryz.prog.follows .mixedOrders=true:=by kernel_rfl
 clear h hk iM ja wq;go_enter Tryz.func86,Tryz.ntmps86;go_wp2_with fail;refine HC.o.mono ?_;rintro e w1 ⟨rfl,eV,fQ⟩;have iZ:=Ux ((gR (aS.aq (F:=R.F pw) (ao (UB w) (.cells #[UE UL c.u,UE UL c.g] 64)))).trans (uN (pw:=pw) (R:=R) fQ));by_cases h0:Y.change.2=0
 ·have nD:(Y.change.2==0)=true:=by simpa using h0
  have HE:=Ux (show Y.op (fun S now=>S.sym c now dir s text)=_ from if_neg (by simp[h0]));have hcr:=(ax.new w #[UE UL c.u,UE UL c.g] 64).mod fQ (by omega);obtain⟨cc,-,cz⟩:=hcr.facts;obtain⟨pc,-,pz⟩:=eV.bD.facts;have HD:=Ux (Ll (eV.wd.an (Below.refl _ w1).drew) gv hN c Y.change.1.now dir s hs text htext);have lK:=Ux eV;clear h0 hcr eV fQ;go_wp2_with fail;refine aG 12 mixed (by kernel_rfl) (show cn _ from by repeat (first|exact cS|refine cR ?_|refine cx ?_|refine cG ?_)) ?_;simp only[List.take_succ_cons,List.take_zero,List.drop_succ_cons,List.drop_zero]
  repeat still_step
  refine wpStill_nil ?_;go_wp2_with fail;refine HD.o.mono ?_;rintro e w5 ⟨rfl,R5,iq,eW⟩;have BA:=Ux ((lK.o.an (Below.refl _ w1).drew).step iq eW);have uD:=Ux ((iZ.o.trans (gR (aS.aq (F:=R.F pw) (Below.refl _ w1).drew))).trans (gR eW));clear iq eW;go_wp2_with fail;go_ret2;rw[HE.o,HF.o.1.symm,HF.o.2.symm];exact⟨rfl,R5,BA.o,uD.o⟩
 ·have nD:(Y.change.2==0)=false:=by simpa using h0
  have HE:=Ux (show Y.op (fun S now=>S.sym c now dir s text)=_ from if_pos h0);have lK:=Ux eV;clear eV h0 fQ;generalize Y.change.2=ce at HE nD⊢;go_wp2_with fail;go_ret2;rw[HE.o];exact⟨rfl,R,lK.o,iZ.o⟩
theorem E4(h:bm w pf pw R pv Y){N:Nat}(hk:ay Y.fs N)(hN:N≤999999)(hc:0≤Y.count∧Y.count≤4611686018427387904)(hl:Y.cC.length≤1000000)(c:Cr)(no:Int)(dir:Int)(s:ByteArray)(hs:s.size≤9223372036854775807) :
  Calls Tryz.prog 87 #[UH (some ⟨pf,0,none⟩),UJ #[UE UL c.u,UE UL c.g],UE UL no,UE UL dir,UF s] w fun e w'=>
   e=.returned (UE UL (Y.fN (fun S now=>S.dV c now no dir s)).2)∧∃R',bm w' pf pw R' pv (Y.fN (fun S now=>S.dV c now no dir s)).1∧aS (R.Y pf pw) (R'.Y pf pw) w w':=by
 have HY:=Ux h;have HC:=Ux (fA (h.an ((Below.refl _ w).alloc (aa _) (.cells #[UE UL c.u,UE UL c.g] 64))) hc hl);obtain⟨iM,ja,wq⟩:=dy Y;have HF:=Ux (ag iM ja);have hpf:=h.bD.lt;have gv:ay Y.change.1.fs N:=by rw[iM];exact hk
 have mixed:Tryz.prog.follows .mixedOrders=true:=by kernel_rfl
 clear h hk iM ja wq;go_enter Tryz.func87,Tryz.ntmps87;go_wp2_with fail;refine HC.o.mono ?_;rintro e w1 ⟨rfl,eV,fQ⟩;have iZ:=Ux ((gR (aS.aq (F:=R.F pw) (ao (UB w) (.cells #[UE UL c.u,UE UL c.g] 64)))).trans (uN (pw:=pw) (R:=R) fQ));by_cases h0:Y.change.2=0
 ·have nD:(Y.change.2==0)=true:=by simpa using h0
  have HE:=Ux (show Y.fN (fun S now=>S.dV c now no dir s)=_ from if_neg (by simp[h0]));have hcr:=(ax.new w #[UE UL c.u,UE UL c.g] 64).mod fQ (by omega);obtain⟨cc,-,cz⟩:=hcr.facts;obtain⟨pc,-,pz⟩:=eV.bD.facts;have HD:=Ux (JF (eV.wd.an (Below.refl _ w1).drew) gv hN c Y.change.1.now no dir s hs);have lK:=Ux eV;clear h0 hcr eV fQ;go_wp2_with fail;refine aG 12 mixed (by kernel_rfl) (show cn _ from by repeat (first|exact cS|refine cR ?_|refine cx ?_|refine cG ?_)) ?_;simp only[List.take_succ_cons,List.take_zero,List.drop_succ_cons,List.drop_zero]
  repeat still_step
  refine wpStill_nil ?_;go_wp2_with fail;refine HD.o.mono ?_;rintro e w5 ⟨rfl,R5,iq,eW⟩;have BA:=Ux ((lK.o.an (Below.refl _ w1).drew).step iq eW);have uD:=Ux ((iZ.o.trans (gR (aS.aq (F:=R.F pw) (Below.refl _ w1).drew))).trans (gR eW));clear iq eW;go_wp2_with fail;go_ret;rw[HE.o,HF.o.1.symm,HF.o.2.symm];exact⟨rfl,R5,BA.o,uD.o⟩
 ·have nD:(Y.change.2==0)=false:=by simpa using h0
  have HE:=Ux (show Y.fN (fun S now=>S.dV c now no dir s)=_ from if_pos h0);have lK:=Ux eV;clear eV h0 fQ;generalize Y.change.2=ce at HE nD⊢;go_wp2_with fail;go_ret;rw[HE.o];exact⟨rfl,R,lK.o,iZ.o⟩
theorem Co(h:bm w pf pw R pv Y){N:Nat}(hk:ay Y.fs N)(hN:N≤999999)(hc:0≤Y.count∧Y.count≤4611686018427387904)(hl:Y.cC.length≤1000000)(c:Cr)(no:Int)(mode:Int)  :
  Calls Tryz.prog 52 #[UH (some ⟨pf,0,none⟩),UJ #[UE UL c.u,UE UL c.g],UE UL no,UE UL mode] w fun e w'=>
   e=.returned (UE UL (Y.fN (fun S now=>S.cq c now no mode)).2)∧∃R',bm w' pf pw R' pv (Y.fN (fun S now=>S.cq c now no mode)).1∧aS (R.Y pf pw) (R'.Y pf pw) w w':=by
 have HY:=Ux h;have HC:=Ux (fA (h.an ((Below.refl _ w).alloc (aa _) (.cells #[UE UL c.u,UE UL c.g] 64))) hc hl);obtain⟨iM,ja,wq⟩:=dy Y;have HF:=Ux (ag iM ja);have hpf:=h.bD.lt;have gv:ay Y.change.1.fs N:=by rw[iM];exact hk
 have mixed:Tryz.prog.follows .mixedOrders=true:=by kernel_rfl
 clear h hk iM ja wq;go_enter Tryz.func52,Tryz.ntmps52;go_wp2_with fail;refine HC.o.mono ?_;rintro e w1 ⟨rfl,eV,fQ⟩;have iZ:=Ux ((gR (aS.aq (F:=R.F pw) (ao (UB w) (.cells #[UE UL c.u,UE UL c.g] 64)))).trans (uN (pw:=pw) (R:=R) fQ));by_cases h0:Y.change.2=0
 ·have nD:(Y.change.2==0)=true:=by simpa using h0
  have HE:=Ux (show Y.fN (fun S now=>S.cq c now no mode)=_ from if_neg (by simp[h0]));have hcr:=(ax.new w #[UE UL c.u,UE UL c.g] 64).mod fQ (by omega);obtain⟨cc,-,cz⟩:=hcr.facts;obtain⟨pc,-,pz⟩:=eV.bD.facts;have HD:=Ux (Jf (eV.wd.an (Below.refl _ w1).drew) gv c Y.change.1.now no mode);have lK:=Ux eV;clear h0 hcr eV fQ;go_wp2_with fail;refine aG 11 mixed (by kernel_rfl) (show cn _ from by repeat (first|exact cS|refine cR ?_|refine cx ?_|refine cG ?_)) ?_;simp only[List.take_succ_cons,List.take_zero,List.drop_succ_cons,List.drop_zero]
  repeat still_step
  refine wpStill_nil ?_;go_wp2_with fail;refine HD.o.mono ?_;rintro e w5 ⟨rfl,R5,iq,eW⟩;have BA:=Ux ((lK.o.an (Below.refl _ w1).drew).step iq eW);have uD:=Ux ((iZ.o.trans (gR (aS.aq (F:=R.F pw) (Below.refl _ w1).drew))).trans (gR eW));clear iq eW;go_wp2_with fail;go_ret;rw[HE.o,HF.o.1.symm,HF.o.2.symm];exact⟨rfl,R5,BA.o,uD.o⟩
 ·have nD:(Y.change.2==0)=false:=by simpa using h0
  have HE:=Ux (show Y.fN (fun S now=>S.cq c now no mode)=_ from if_pos h0);have lK:=Ux eV;clear eV h0 fQ;generalize Y.change.2=ce at HE nD⊢;go_wp2_with fail;go_ret;rw[HE.o];exact⟨rfl,R,lK.o,iZ.o⟩
theorem Cm(h:bm w pf pw R pv Y){N:Nat}(hk:ay Y.fs N)(hN:N≤999999)(hc:0≤Y.count∧Y.count≤4611686018427387904)(hl:Y.cC.length≤1000000)(c:Cr)(no:Int)(uid:Int)(gid:Int)  :
  Calls Tryz.prog 51 #[UH (some ⟨pf,0,none⟩),UJ #[UE UL c.u,UE UL c.g],UE UL no,UE UL uid,UE UL gid] w fun e w'=>
   e=.returned (UE UL (Y.fN (fun S now=>S.cy c now no uid gid)).2)∧∃R',bm w' pf pw R' pv (Y.fN (fun S now=>S.cy c now no uid gid)).1∧aS (R.Y pf pw) (R'.Y pf pw) w w':=by
 have HY:=Ux h;have HC:=Ux (fA (h.an ((Below.refl _ w).alloc (aa _) (.cells #[UE UL c.u,UE UL c.g] 64))) hc hl);obtain⟨iM,ja,wq⟩:=dy Y;have HF:=Ux (ag iM ja);have hpf:=h.bD.lt;have gv:ay Y.change.1.fs N:=by rw[iM];exact hk
 have mixed:Tryz.prog.follows .mixedOrders=true:=by kernel_rfl
 clear h hk iM ja wq;go_enter Tryz.func51,Tryz.ntmps51;go_wp2_with fail;refine HC.o.mono ?_;rintro e w1 ⟨rfl,eV,fQ⟩;have iZ:=Ux ((gR (aS.aq (F:=R.F pw) (ao (UB w) (.cells #[UE UL c.u,UE UL c.g] 64)))).trans (uN (pw:=pw) (R:=R) fQ));by_cases h0:Y.change.2=0
 ·have nD:(Y.change.2==0)=true:=by simpa using h0
  have HE:=Ux (show Y.fN (fun S now=>S.cy c now no uid gid)=_ from if_neg (by simp[h0]));have hcr:=(ax.new w #[UE UL c.u,UE UL c.g] 64).mod fQ (by omega);obtain⟨cc,-,cz⟩:=hcr.facts;obtain⟨pc,-,pz⟩:=eV.bD.facts;have HD:=Ux (FG (eV.wd.an (Below.refl _ w1).drew) gv c Y.change.1.now no uid gid);have lK:=Ux eV;clear h0 hcr eV fQ;go_wp2_with fail;refine aG 12 mixed (by kernel_rfl) (show cn _ from by repeat (first|exact cS|refine cR ?_|refine cx ?_|refine cG ?_)) ?_;simp only[List.take_succ_cons,List.take_zero,List.drop_succ_cons,List.drop_zero]
  repeat still_step
  refine wpStill_nil ?_;go_wp2_with fail;refine HD.o.mono ?_;rintro e w5 ⟨rfl,R5,iq,eW⟩;have BA:=Ux ((lK.o.an (Below.refl _ w1).drew).step iq eW);have uD:=Ux ((iZ.o.trans (gR (aS.aq (F:=R.F pw) (Below.refl _ w1).drew))).trans (gR eW));clear iq eW;go_wp2_with fail;go_ret;rw[HE.o,HF.o.1.symm,HF.o.2.symm];exact⟨rfl,R5,BA.o,uD.o⟩
 ·have nD:(Y.change.2==0)=false:=by simpa using h0
  have HE:=Ux (show Y.fN (fun S now=>S.cy c now no uid gid)=_ from if_pos h0);have lK:=Ux eV;clear eV h0 fQ;generalize Y.change.2=ce at HE nD⊢;go_wp2_with fail;go_ret;rw[HE.o];exact⟨rfl,R,lK.o,iZ.o⟩
theorem Cb(h:bm w pf pw R pv Y){N:Nat}(hk:ay Y.fs N)(hN:N≤999999)(hc:0≤Y.count∧Y.count≤4611686018427387904)(hl:Y.cC.length≤1000000)(c:Cr)(no:Int)(t:Int)  :
  Calls Tryz.prog 53 #[UH (some ⟨pf,0,none⟩),UJ #[UE UL c.u,UE UL c.g],UE UL no,UE UL t] w fun e w'=>
   e=.returned (UE UL (Y.fN (fun S now=>S.ct c now no t)).2)∧∃R',bm w' pf pw R' pv (Y.fN (fun S now=>S.ct c now no t)).1∧aS (R.Y pf pw) (R'.Y pf pw) w w':=by
 have HY:=Ux h;have HC:=Ux (fA (h.an ((Below.refl _ w).alloc (aa _) (.cells #[UE UL c.u,UE UL c.g] 64))) hc hl);obtain⟨iM,ja,wq⟩:=dy Y;have HF:=Ux (ag iM ja);have hpf:=h.bD.lt;have gv:ay Y.change.1.fs N:=by rw[iM];exact hk
 have mixed:Tryz.prog.follows .mixedOrders=true:=by kernel_rfl
 clear h hk iM ja wq;go_enter Tryz.func53,Tryz.ntmps53;go_wp2_with fail;refine HC.o.mono ?_;rintro e w1 ⟨rfl,eV,fQ⟩;have iZ:=Ux ((gR (aS.aq (F:=R.F pw) (ao (UB w) (.cells #[UE UL c.u,UE UL c.g] 64)))).trans (uN (pw:=pw) (R:=R) fQ));by_cases h0:Y.change.2=0
 ·have nD:(Y.change.2==0)=true:=by simpa using h0
  have HE:=Ux (show Y.fN (fun S now=>S.ct c now no t)=_ from if_neg (by simp[h0]));have hcr:=(ax.new w #[UE UL c.u,UE UL c.g] 64).mod fQ (by omega);obtain⟨cc,-,cz⟩:=hcr.facts;obtain⟨pc,-,pz⟩:=eV.bD.facts;have HD:=Ux (Ir (eV.wd.an (Below.refl _ w1).drew) gv c Y.change.1.now no t);have lK:=Ux eV;clear h0 hcr eV fQ;go_wp2_with fail;refine aG 11 mixed (by kernel_rfl) (show cn _ from by repeat (first|exact cS|refine cR ?_|refine cx ?_|refine cG ?_)) ?_;simp only[List.take_succ_cons,List.take_zero,List.drop_succ_cons,List.drop_zero]
  repeat still_step
  refine wpStill_nil ?_;go_wp2_with fail;refine HD.o.mono ?_;rintro e w5 ⟨rfl,R5,iq,eW⟩;have BA:=Ux ((lK.o.an (Below.refl _ w1).drew).step iq eW);have uD:=Ux ((iZ.o.trans (gR (aS.aq (F:=R.F pw) (Below.refl _ w1).drew))).trans (gR eW));clear iq eW;go_wp2_with fail;go_ret;rw[HE.o,HF.o.1.symm,HF.o.2.symm];exact⟨rfl,R5,BA.o,uD.o⟩
 ·have nD:(Y.change.2==0)=false:=by simpa using h0
  have HE:=Ux (show Y.fN (fun S now=>S.ct c now no t)=_ from if_pos h0);have lK:=Ux eV;clear eV h0 fQ;generalize Y.change.2=ce at HE nD⊢;go_wp2_with fail;go_ret;rw[HE.o];exact⟨rfl,R,lK.o,iZ.o⟩
end
end
section
open Go.RowKit
def E1:Option An→Value
 |none=>UJ #[UE UL 0,UE UL 0,UE UL 0,UE UL 0,UE UL 0,UE UL 0,UE UL 0,UE UL 0,UE UL 0,UE UL 0]
 |some n=>UJ #[UE UL n.no,UE UL n.dev,UE UL n.kind,UE UL n.mode,UE UL n.uid,UE UL n.gid,UE UL n.ak,UE UL n.data.size,UE UL n.mtime,UE UL n.ctime]
def ep:Option An→Int
 |none=>5
 |some _=>0
theorem ax.DP{w:World}{B:Nat}{x0 x1 x2 x3 x4 x5 x6 x7 x8 x9 v0 v1 v2 v3 v4 v5 v6 v7 v8 v9:Value}{T:TypeId}(h:ax w B #[x0,x1,x2,x3,x4,x5,x6,x7,x8,x9] T):ax ((((((((((w.setCell ⟨B,0,none⟩ v0).setCell ⟨B,1,none⟩ v1).setCell ⟨B,2,none⟩ v2).setCell ⟨B,3,none⟩ v3).setCell ⟨B,4,none⟩ v4).setCell ⟨B,5,none⟩ v5).setCell ⟨B,6,none⟩ v6).setCell ⟨B,7,none⟩ v7).setCell ⟨B,8,none⟩ v8).setCell ⟨B,9,none⟩ v9) B #[v0,v1,v2,v3,v4,v5,v6,v7,v8,v9] T:=
 ax.row (xs:=[x0,x1,x2,x3,x4,x5,x6,x7,x8,x9]) (vs:=[v0,v1,v2,v3,v4,v5,v6,v7,v8,v9]) h rfl
theorem j8{N:Nat}{w0 w:World}{B:Nat}{v0 v1 v2 v3 v4 v5 v6 v7 v8 v9:Value}(h:Below N w0 w)(hB:N≤B):Below N w0 ((((((((((w.setCell ⟨B,0,none⟩ v0).setCell ⟨B,1,none⟩ v1).setCell ⟨B,2,none⟩ v2).setCell ⟨B,3,none⟩ v3).setCell ⟨B,4,none⟩ v4).setCell ⟨B,5,none⟩ v5).setCell ⟨B,6,none⟩ v6).setCell ⟨B,7,none⟩ v7).setCell ⟨B,8,none⟩ v8).setCell ⟨B,9,none⟩ v9):=
 qw hB [v0,v1,v2,v3,v4,v5,v6,v7,v8,v9] w 0 h
theorem oH{tmps:Array Value}{W:World}{B:Nat}{y0 y1 y2 y3 y4 y5 y6 y7 y8 y9 e:Int}(hb:ax W B #[UE UL y0,UE UL y1,UE UL y2,UE UL y3,UE UL y4,UE UL y5,UE UL y6,UE UL y7,UE UL y8,UE UL y9] 67)
  (h8:tmps.getD 4 undef=UH (some ⟨B,0,none⟩)) (h9:tmps.getD 5 undef=UE UL e):(results Tryz.f33 tmps).run Tryz.prog W=.ok (UK #[UJ #[UE UL y0,UE UL y1,UE UL y2,UE UL y3,UE UL y4,UE UL y5,UE UL y6,UE UL y7,UE UL y8,UE UL y9],UE UL e]) W:=by
 have q0:=hb.cell 0;have q1:=hb.cell 1;have q2:=hb.cell 2;have q3:=hb.cell 3;have q4:=hb.cell 4;have q5:=hb.cell 5;have q6:=hb.cell 6;have q7:=hb.cell 7;have q8:=hb.cell 8;have q9:=hb.cell 9;rw[Array.getD_eq_getD_getElem?] at h8 h9;simp[results,Tryz.results33,go_sem,h8,h9,q0,q1,q2,q3,q4,q5,q6,q7,q8,q9]
theorem gh{tmps:Array Value}{W:World}{B:Nat}{a:An}{ea:Option Addr}{el ec:Nat}{e:Int}(hb:ax W B #[UE UL a.no,UE UL a.dev,UE UL a.kind,UE UL a.mode,UE UL a.uid,UE UL a.gid,UE UL a.mtime,UE UL a.ctime,UE UL a.ak,UE UL a.up,UF a.data,UG ea el ec] 149)
  (h8:tmps.getD 10 undef=UH (some ⟨B,0,none⟩)) (h9:tmps.getD 11 undef=UE UL e):(results Tryz.f65 tmps).run Tryz.prog W=.ok (UK #[a.v ea el ec,UE UL e]) W:=by
 obtain⟨q0,q1,q2,q3,q4,q5,q6,q7,q8,q9,q10,q11⟩:=hb.fO;rw[Array.getD_eq_getD_getElem?] at h8 h9;simp[results,Tryz.results65,go_sem,An.v,h8,h9,q0,q1,q2,q3,q4,q5,q6,q7,q8,q9,q10,q11]
def Fs.cV(S:Fs)(c:Cr)(no kind want:Int):Int:=match S.get no with
 |none=>5
 |some n=>if n.kind=kind then(if n.may c want=true then 0 else 6) else if kind=1 then 9 else if n.kind=1 then 8 else 1
def Fs.read(S:Fs)(c:Cr)(no:Int):ByteArray×Int:=if S.cV c no 2 4=0 then(match S.get no with|none=>(ByteArray.empty,0)|some n=>(n.data,0)) else(ByteArray.empty,S.cV c no 2 4)
section
variable{w w':World}{pw:Nat}{R:Rp}{S:Fs}
theorem IB(h:bB w pw R S){N:Nat}(hk:ay S N)(no:Int) :
  Calls Tryz.prog 33 #[UH (some ⟨pw,0,none⟩),UE UL no] w fun e w'=>e=.returned (UK #[E1 (S.get no),UE UL (ep (S.get no))])∧UA w w':=by
 have ka:=Ux (fun w1 (av:UA w w1)=>iA (h.an av) hk.d1);have hnz:=hk.d1;generalize S.ds.length=n at ka hnz;have hz:((n:Int)==0)=false:=by simp;omega
 obtain⟨pc,-,pz⟩:=h.bD.facts;obtain⟨fh,aJ⟩:=Uz w #[UE UL 0,UE UL 0,UE UL 0,UE UL 0,UE UL 0,UE UL 0,UE UL 0,UE UL 0,UE UL 0,UE UL 0] 67
 cases hg:S.get no with
 |none=>
  have HG:=Ux (fun w1 (av:UA w w1)=>gD (h.an av) hg);unfold An.v dD at HG;unfold E1 ep;clear h hk hg;go_enter Tryz.func33,Tryz.ntmps33;go_wp2_with fail;refine(ka.o _ aJ).mono ?_;rintro e w1 ⟨rfl,rfl⟩;generalize w.alloc _=W0 at fh aJ⊢;have gT:=Ux fh;have bC:=Ux aJ;have pc0:W0.cell? ⟨pw,0,none⟩=some (UH (some ⟨R.pt,0,none⟩)):=(aJ.cell (p:=⟨pw,0,none⟩) pz).trans (pc 0);clear fh aJ pc;go_wp2_with fail;refine(HG.o _ bC.o).mono ?_;rintro e w1 ⟨rfl,av⟩;have od:=(gT.o.an av).bI (.cells #[UE UL 0,UE UL 0,UE UL 0,UE UL 0,UE UL 0,UE UL 0,UE UL 0,UE UL 0,UE UL 0,UE UL 0,UF ByteArray.empty,UG none 0 0] 149);have eT:=ao (bC.o.trans (av.mono bC.o.size)) (.cells #[UE UL 0,UE UL 0,UE UL 0,UE UL 0,UE UL 0,UE UL 0,UE UL 0,UE UL 0,UE UL 0,UE UL 0,UF ByteArray.empty,UG none 0 0] 149);clear av;go_upto_region 4 with fail;generalize w1.alloc _=Y at od eT⊢;have BP:=Ux od;have nk:=Ux eT;obtain⟨rc,rf,rz⟩:=od.facts;clear od eT;go_wp2_with fail;exact bodyPost_ret (oH BP.o.DP rfl rfl) rfl ⟨rfl,j8 nk.o (aa _)⟩
 |some d=>
  obtain⟨ea,el,ec,he,hG⟩:=fF h hg;have HG:=Ux hG;unfold An.v at HG;unfold E1 ep;clear h hk hg hG he;go_enter Tryz.func33,Tryz.ntmps33;go_wp2_with fail;refine(ka.o _ aJ).mono ?_;rintro e w1 ⟨rfl,rfl⟩;generalize w.alloc _=W0 at fh aJ⊢;have gT:=Ux fh;have bC:=Ux aJ;have pc0:W0.cell? ⟨pw,0,none⟩=some (UH (some ⟨R.pt,0,none⟩)):=(aJ.cell (p:=⟨pw,0,none⟩) pz).trans (pc 0);clear fh aJ pc;go_wp2_with fail;refine(HG.o _ bC.o).mono ?_;rintro e w1 ⟨rfl,av⟩;have od:=(gT.o.an av).bI (.cells #[UE UL d.no,UE UL d.dev,UE UL d.kind,UE UL d.mode,UE UL d.uid,UE UL d.gid,UE UL d.mtime,UE UL d.ctime,UE UL d.ak,UE UL d.up,UF d.data,UG ea el ec] 149);have eT:=ao (bC.o.trans (av.mono bC.o.size)) (.cells #[UE UL d.no,UE UL d.dev,UE UL d.kind,UE UL d.mode,UE UL d.uid,UE UL d.gid,UE UL d.mtime,UE UL d.ctime,UE UL d.ak,UE UL d.up,UF d.data,UG ea el ec] 149);have rs:=ax.new w1 #[UE UL d.no,UE UL d.dev,UE UL d.kind,UE UL d.mode,UE UL d.uid,UE UL d.gid,UE UL d.mtime,UE UL d.ctime,UE UL d.ak,UE UL d.up,UF d.data,UG ea el ec] 149;clear av;go_upto_region 4 with fail;generalize w1.alloc _=Y at od eT rs⊢;have BP:=Ux od;have nk:=Ux eT;obtain⟨rc,rf,rz⟩:=od.facts;obtain⟨dc,df,dz⟩:=rs.facts;clear od eT rs;go_wp2_with fail;exact bodyPost_ret (oH BP.o.DP rfl rfl) rfl ⟨rfl,j8 nk.o (aa _)⟩
theorem sX(h:bB w pw R S){N:Nat}(hk:ay S N)(c:Cr)(no kind want:Int) :
  Calls Tryz.prog 65 #[UH (some ⟨pw,0,none⟩),UJ #[UE UL c.u,UE UL c.g],UE UL no,UE UL kind,UE UL want] w fun e w'=>((S.cV c no kind want≠0∧e=.returned (UK #[dD.v none 0 0,UE UL (S.cV c no kind want)]))∨(S.cV c no kind want=0∧∃d ea el ec,S.get no=some d∧e=.returned (UK #[d.v ea el ec,UE UL 0])∧aA w ea el ec d.au))∧UA w w':=by
 have ka:=Ux (fun w1 (av:UA w w1)=>iA (h.an av) hk.d1);have hnz:=hk.d1;generalize S.ds.length=n at ka hnz;have hz:((n:Int)==0)=false:=by simp;omega
 obtain⟨pc,-,pz⟩:=h.bD.facts;have fh:ax ((w.alloc (.cells #[UE UL c.u,UE UL c.g] 64)).alloc (.cells #[UE UL 0,UE UL 0,UE UL 0,UE UL 0,UE UL 0,UE UL 0,UE UL 0,UE UL 0,UE UL 0,UE UL 0,UF ⟨#[]⟩,UG none 0 0] 149)) (w.heap.size+1) #[UE UL 0,UE UL 0,UE UL 0,UE UL 0,UE UL 0,UE UL 0,UE UL 0,UE UL 0,UE UL 0,UE UL 0,UF ⟨#[]⟩,UG none 0 0] 149:=by
  have:=ax.new (w.alloc (.cells #[UE UL c.u,UE UL c.g] 64)) #[UE UL 0,UE UL 0,UE UL 0,UE UL 0,UE UL 0,UE UL 0,UE UL 0,UE UL 0,UE UL 0,UE UL 0,UF ⟨#[]⟩,UG none 0 0] 149
  rwa [World.size_alloc] at this
 have ir:=(ax.new w #[UE UL c.u,UE UL c.g] 64).bI (.cells #[UE UL 0,UE UL 0,UE UL 0,UE UL 0,UE UL 0,UE UL 0,UE UL 0,UE UL 0,UE UL 0,UE UL 0,UF ⟨#[]⟩,UG none 0 0] 149);have aJ:=ao (ao (UB w) (.cells #[UE UL c.u,UE UL c.g] 64)) (.cells #[UE UL 0,UE UL 0,UE UL 0,UE UL 0,UE UL 0,UE UL 0,UE UL 0,UE UL 0,UE UL 0,UE UL 0,UF ⟨#[]⟩,UG none 0 0] 149)
 cases hg:S.get no with
 |none=>
  have HE:=Ux (show S.cV c no kind want=5 by unfold Fs.cV;rw[hg]);have HG:=Ux (fun w1 (av:UA w w1)=>gD (h.an av) hg);unfold An.v dD at HG;generalize S.cV c no kind want=oe at HE⊢;clear h hk hg;go_enter Tryz.func65,Tryz.ntmps65;go_wp2_with fail;refine(ka.o _ aJ).mono ?_;rintro e w1 ⟨rfl,rfl⟩;generalize World.alloc _ _=W0 at fh ir aJ⊢;have gT:=Ux fh;have bC:=Ux aJ;have pc0:W0.cell? ⟨pw,0,none⟩=some (UH (some ⟨R.pt,0,none⟩)):=(aJ.cell (p:=⟨pw,0,none⟩) pz).trans (pc 0);clear fh aJ pc ir;go_wp2_with fail;refine(HG.o _ bC.o).mono ?_;rintro e w1 ⟨rfl,av⟩;have od:=(gT.o.an av).bI (.cells #[UE UL 0,UE UL 0,UE UL 0,UE UL 0,UE UL 0,UE UL 0,UE UL 0,UE UL 0,UE UL 0,UE UL 0,UF ByteArray.empty,UG none 0 0] 149);have eT:=ao (bC.o.trans (av.mono bC.o.size)) (.cells #[UE UL 0,UE UL 0,UE UL 0,UE UL 0,UE UL 0,UE UL 0,UE UL 0,UE UL 0,UE UL 0,UE UL 0,UF ByteArray.empty,UG none 0 0] 149);clear av;go_upto_region 4 with fail;generalize w1.alloc _=Y at od eT⊢;have BP:=Ux od;have nk:=Ux eT;obtain⟨rc,rf,rz⟩:=od.facts;clear od eT;go_wp2_with fail;exact bodyPost_ret (gh (a:=dD) BP.o.dY rfl rfl) rfl ⟨.inl ⟨by rw[HE.o];decide,by rw[HE.o]⟩,bg nk.o (Nat.le_succ _)⟩
 |some d=>
  obtain⟨ea,el,ec,he,hG⟩:=fF h hg;have HG:=Ux hG;have nj:=Ux he;have HQ:=Ux (show S.cV c no kind want=if d.kind=kind then(if d.may c want=true then 0 else 6) else if kind=1 then 9 else if d.kind=1 then 8 else 1 by unfold Fs.cV;rw[hg]);have lX:=Ux (fun w=>kB c d ea el ec want w);unfold Cr.v An.v at lX;unfold An.v at HG;generalize S.cV c no kind want=oe at HQ⊢;clear h hk hg hG he;go_enter Tryz.func65,Tryz.ntmps65;go_wp2_with fail;refine(ka.o _ aJ).mono ?_;rintro e w1 ⟨rfl,rfl⟩;generalize World.alloc _ _=W0 at fh ir aJ⊢;have gT:=Ux fh;have bC:=Ux aJ;have Qz:=Ux ir;have pc0:W0.cell? ⟨pw,0,none⟩=some (UH (some ⟨R.pt,0,none⟩)):=(aJ.cell (p:=⟨pw,0,none⟩) pz).trans (pc 0);clear fh aJ pc ir;go_wp2_with fail;refine(HG.o _ bC.o).mono ?_;rintro e w1 ⟨rfl,av⟩;have od:=(gT.o.an av).bI (.cells #[UE UL d.no,UE UL d.dev,UE UL d.kind,UE UL d.mode,UE UL d.uid,UE UL d.gid,UE UL d.mtime,UE UL d.ctime,UE UL d.ak,UE UL d.up,UF d.data,UG ea el ec] 149);have hCY:=(Qz.o.an av).bI (.cells #[UE UL d.no,UE UL d.dev,UE UL d.kind,UE UL d.mode,UE UL d.uid,UE UL d.gid,UE UL d.mtime,UE UL d.ctime,UE UL d.ak,UE UL d.up,UF d.data,UG ea el ec] 149);have eT:=ao (bC.o.trans (av.mono bC.o.size)) (.cells #[UE UL d.no,UE UL d.dev,UE UL d.kind,UE UL d.mode,UE UL d.uid,UE UL d.gid,UE UL d.mtime,UE UL d.ctime,UE UL d.ak,UE UL d.up,UF d.data,UG ea el ec] 149);have rs:=ax.new w1 #[UE UL d.no,UE UL d.dev,UE UL d.kind,UE UL d.mode,UE UL d.uid,UE UL d.gid,UE UL d.mtime,UE UL d.ctime,UE UL d.ak,UE UL d.up,UF d.data,UG ea el ec] 149;clear av;go_upto_region 4 with fail;generalize w1.alloc _=Y at od eT rs hCY⊢;have BP:=Ux od;have nk:=Ux eT;have HDY:=Ux rs;obtain⟨rc,rf,rz⟩:=od.facts;obtain⟨dc,df,dz⟩:=rs.facts;obtain⟨cc,-,-⟩:=hCY.facts;clear od eT rs hCY;by_cases h1:d.kind=kind
  ·have o8:(d.kind==kind)=true:=by simpa using h1
   have rE:=Ux (HQ.o.trans (if_pos h1));clear h1 HQ;go_wp2_with fail;refine(lX.o _).mono ?_;rintro e w5 ⟨rfl,cK⟩;have hRZ:=BP.o.an cK;have QV:=HDY.o.an cK;have HRZ:=Ux hRZ;have rX:=Ux (nk.o.trans (cK.mono nk.o.size));clear rc rf rz dc df dz cc cK;obtain⟨rc,rf,rz⟩:=hRZ.facts;obtain⟨dc,df,dz⟩:=QV.facts;clear hRZ QV
   cases hm:d.may c want with
   |true=>
    have HE:=Ux (rE.o.trans (if_pos hm));clear hm;go_wp2_with fail;exact bodyPost_ret (gh (a:=d) (ea:=ea) (el:=el) (ec:=ec) HRZ.o.dY rfl rfl) rfl ⟨.inr ⟨HE.o,d,ea,el,ec,rfl,rfl,nj.o⟩,bg rX.o (Nat.le_succ _)⟩
   |false=>
    have HE:=Ux (rE.o.trans (if_neg (by rw[hm];decide)));clear hm;go_wp2_with fail;exact bodyPost_ret (gh (a:=dD) HRZ.o.dY rfl rfl) rfl ⟨.inl ⟨by rw[HE.o];decide,by rw[HE.o]⟩,bg rX.o (Nat.le_succ _)⟩
  ·have o8:(d.kind==kind)=false:=by simpa using h1
   have rE:=Ux (HQ.o.trans (if_neg h1));clear h1 HQ;by_cases h2:kind=1
   ·have kR:(kind==1)=true:=by simpa using h2
    have HE:=Ux (rE.o.trans (if_pos h2));clear h2;go_wp2_with fail;exact bodyPost_ret (gh (a:=dD) BP.o.dY rfl rfl) rfl ⟨.inl ⟨by rw[HE.o];decide,by rw[HE.o]⟩,bg nk.o (Nat.le_succ _)⟩
   ·have kR:(kind==1)=false:=by simpa using h2
    have vl:=Ux (rE.o.trans (if_neg h2));clear h2 rE;by_cases h3:d.kind=1
    ·have tR:(d.kind==1)=true:=by simpa using h3
     have HE:=Ux (vl.o.trans (if_pos h3));clear h3;go_wp2_with fail;exact bodyPost_ret (gh (a:=dD) BP.o.dY rfl rfl) rfl ⟨.inl ⟨by rw[HE.o];decide,by rw[HE.o]⟩,bg nk.o (Nat.le_succ _)⟩
    ·have tR:(d.kind==1)=false:=by simpa using h3
     have HE:=Ux (vl.o.trans (if_neg h3));clear h3;go_wp2_with fail;exact bodyPost_ret (gh (a:=dD) BP.o.dY rfl rfl) rfl ⟨.inl ⟨by rw[HE.o];decide,by rw[HE.o]⟩,bg nk.o (Nat.le_succ _)⟩
theorem Fv(h:bB w pw R S){N:Nat}(hk:ay S N)(c:Cr)(no:Int) :
  Calls Tryz.prog 77 #[UH (some ⟨pw,0,none⟩),UJ #[UE UL c.u,UE UL c.g],UE UL no] w fun e w'=>e=.returned (UK #[UF (S.read c no).1,UE UL (S.read c no).2])∧UA w w':=by
 have HO:=Ux (fun w1 (av:UA w w1)=>sX (h.an av) hk c no 2 4);have HR:=Ux (show S.read c no=if S.cV c no 2 4=0 then(match S.get no with|none=>(ByteArray.empty,0)|some n=>(n.data,0)) else(ByteArray.empty,S.cV c no 2 4) from rfl);generalize S.read c no=rd at HR⊢;clear h hk;go_enter Tryz.func77,Tryz.ntmps77;go_wp2_with fail;refine(HO.o _ (ao (Below.refl _ _) _)).mono ?_;rintro e w1 ⟨⟨h0,rfl⟩|⟨h0,d,ea,el,ec,hg,rfl,-⟩,av⟩
 ·have HB:=Ux (ar (ao (UB w) _) av);have HE:=Ux (HR.o.trans (if_neg h0));generalize S.cV c no 2 4=oe at HE⊢;unfold An.v dD;clear h0 av;go_wp2_with fail;go_ret2;rw[HE.o];exact⟨rfl,ao HB.o _⟩
 ·have HB:=Ux (ar (ao (UB w) _) av);have HE:=Ux (show rd=(d.data,0) by rw[HR.o,if_pos h0,hg]);unfold An.v;clear h0 av hg;go_wp2_with fail;go_ret2;rw[HE.o];exact⟨rfl,ao HB.o _⟩
end
end
section
open Go.RowKit
theorem xG{w:World}{base base' sz n:Nat}{e:TypeId}{v:Value}{xs:List Value}(h:w.ownsRow base e sz v n xs)(hb:base'≤base):w.ownsRow base' e sz v n xs:=
 ⟨h.1,h.2.imp id fun⟨g,cap,cur,hv,hg,rest⟩=>⟨g,cap,cur,hv,ae hb hg,rest⟩⟩
theorem JY:(Tryz.prog.info? 162).map (fun i=>(i.zero,i.size,i.bytes))=some (some (UJ #[UE UL 0,UE UL 0]),2,16):=by kernel_rfl
theorem zO{w:World}{b off n c:Nat}{l:List (Int×Int)}(h:bF w 2 ng (some ⟨b,off,none⟩) n c l)(j:Nat)(u:Value)(hu:(l.flatMap ym)[j]?=some u):w.cell? (Addr.add ⟨b,off,none⟩ j)=some u:=by
 obtain⟨hl,-,-,h0|⟨b',off',he,hb,hel⟩⟩:=h
 ·rw[show l=[] from List.eq_nil_of_length_eq_zero (by omega)] at hu;simp at hu
 ·injection he with he;injection he with e1 e2;subst e1 e2;have hjl:j<l.length*2:=by
   have:=(List.getElem?_eq_some_iff.1 hu).1
   rwa [cJ fY] at this
  have hk:j / 2<l.length:=by omega
  obtain⟨cs,h1,h2,h3⟩:=hel (j / 2) hk;unfold ng at h2;subst h2;have h4:=h3 (j % 2) (by rw[fY];omega);have h5:off+j / 2*2+j % 2=off+j:=by omega
  rw[h5] at h4;have h6:(l.flatMap ym)[j]?=(ym l[j / 2])[j % 2]?:=by
   clear h4 h3 hu h1 hel hjl h5 hl hb
   induction l generalizing j with
   |nil=>simp at hk
   |cons x l ih=>
    rw[List.flatMap_cons];by_cases hj:j<2
    ·rw[List.getElem?_append_left (by rw[fY];exact hj)];have e1:j / 2=0:=by omega
     have e2:j % 2=j:=by omega
     simp[e1,e2]
    ·rw[List.getElem?_append_right (by rw[fY];omega),fY];have hk':(j-2) / 2<l.length:=by simp only[List.length_cons] at hk;omega
     rw[ih (j-2) hk'];have e1:j / 2=(j-2) / 2+1:=by omega
     have e2:j % 2=(j-2) % 2:=by omega
     simp[e1,e2]
  rw[h6,List.getElem?_eq_getElem (by rw[fY];omega)] at hu;injection hu with hu;rw[←hu,←h4];by_cases hz:j=0
  ·subst hz;simp[Addr.add]
  ·simp[Addr.add,hz]
section
variable{w w':World}{pf pw:Nat}{R:Rp}{pv:Value}{Y:Sy}
def sy0(b n:Int):Sy:=⟨qh.aD 0 b n,0,0,[],false⟩
theorem IE(b n:Int)(hlim:ig b n=true)(w:World) :
  Calls Tryz.prog 47 #[UE UL b,UE UL n] w fun e w'=>∃pf pw R,e=.returned (UK #[UH (some ⟨pf,0,none⟩),UE UL 0])∧bm w' pf pw R (UG none 0 0) (sy0 b n)∧UA w w'∧∀k,R.Y pf pw k→w.heap.size≤k:=by
 have HN:=Ux (Ia b n hlim w);clear hlim;go_enter Tryz.func47,Tryz.ntmps47;go_wp2_with fail;refine HN.o.mono ?_;rintro e w1 ⟨pw,R,rfl,hW,hb,hF⟩;have HX:=Ux (ag hW (ag hb hF));clear hW hb hF;go_wp2_with fail;go_ret2;obtain⟨hW,hb,hF⟩:=HX.o;refine⟨w1.heap.size,pw,R,rfl,⟨ax.new _ _ _,hW.an ((Below.refl _ _).alloc (aa _) _),⟨rfl,.inl ⟨rfl,rfl⟩⟩⟩,ao hb _,fun k hk=>?_⟩;rcases hk with rfl|hk
 ·exact hb.size
 ·exact hF k hk
theorem Ed{W:World}{a:Option Addr}{n c:Nat}{l:List (Int×Int)}(hl:bF W 2 ng a n c l)(hn:l.length≤1000000) :
  ∃v W',(Builtin.append_ #[28,28] 28 #[UG none 0 0,UG a n c]).run Tryz.prog W=.ok v W'∧W'.ownsRow W.heap.size 162 2 v l.length (l.flatMap ym)∧UA W W':=by
 obtain⟨i0,hi,kp,fj,fo⟩:=info_parts JY;have hln:=hl.1;have hnil:W.ownsRow W.heap.size 162 2 (UG none 0 0) 0 []:=⟨rfl,.inl ⟨rfl,rfl⟩⟩;by_cases h0:n=0
 ·subst h0;rw[show l=[] from List.eq_nil_of_length_eq_zero (by omega)];exact⟨_,W,jq _ Tryz.underlying28 hi hnil a c,hnil,Below.refl _ _⟩
 ·obtain⟨b,off,rfl⟩:∃b off,a=some ⟨b,off,none⟩:=by
   obtain⟨-,-,-,h|⟨b,off,h,-⟩⟩:=hl
   ·exact absurd h h0
   ·exact⟨b,off,h⟩
  obtain⟨g,cap,W',h1,h2,h3,h4⟩:=eX 28 Tryz.underlying28 hi kp fj fo rfl (by omega) hnil ⟨b,off,none⟩ n c (l.flatMap ym) (by rw[cJ fY,hln]) (fun j u hu=>zO hl j u hu)
   (by intro u hu;obtain⟨y,-,hy⟩:=List.mem_flatMap.1 hu;simp[ym] at hy;rcases hy with rfl|rfl<;>rfl) (by omega) (by unfold maxLen;omega) (by omega) (aa _)
  refine⟨_,W',h1,?_,h3.below (fun k hk=>by cases hk) (aa _)⟩;rw[hln];rw[List.nil_append,Nat.zero_add] at h2;rw[Nat.zero_add];exact h2
theorem E2(h:bm w pf pw R pv Y){a:Option Addr}{n c:Nat}{l:List (Int×Int)}(hl:bF w 2 ng a n c l)(hpa:∀b off,a=some ⟨b,off,none⟩→b≠pf)(hn:l.length≤1000000) :
  Calls Tryz.prog 56 #[UH (some ⟨pf,0,none⟩),UG a n c] w fun e w'=>e=.returned (UK #[])∧∃pv',bm w' pf pw R pv' {Y with count:=0,cC:=l}∧Mod (fun k=>k=pf) w w':=by
 have HN:=Ux (gK h);have HY:=Ux h;have mT:bF (w.setCell ⟨pf,2,none⟩ (UE UL 0)) 2 ng a n c l:=by
  refine⟨hl.1,hl.2.1,hl.2.2.1,hl.2.2.2.imp id ?_⟩;rintro⟨b,off,rfl,hlt,hel⟩;have hq:=Below.heap_setCell w ⟨pf,2,none⟩ (UE UL 0) b (hpa b off rfl);refine⟨b,off,rfl,by simpa [World.setCell] using hlt,fun i hi=>?_⟩;obtain⟨cs,h1,h2,h3⟩:=hel i hi;refine⟨cs,h1,h2,fun j hj=>?_⟩;rw[←h3 j hj];simp only[World.cell?,hq]
 obtain⟨v,W,hrun,hown,mZ⟩:=Ed mT hn;obtain⟨a1,c1,rfl,-,-,-⟩:=bQ hown;have fR:=h.bD.set 2 (UE UL 0);have oh:=fR.an mZ;have HR:=Ux hrun;have HX:=Ux (ag hown (ag mZ oh));obtain⟨pc,pf',pz⟩:=h.bD.facts;obtain⟨qc,qf,qz⟩:=oh.facts;clear h hl mT hrun hown mZ fR oh;go_enter Tryz.func56,Tryz.ntmps56;go_wp2_with (first|(go_at_call 41;((with_reducible refine HN.o.mono ?_);rintro e w1 ⟨rfl,rfl⟩))|(at_builtin;refine aT rfl rfl rfl rfl HR.o ?_))
 go_end0
 obtain⟨hown,mZ,oh⟩:=HX.o;have fQ:=(Mod.refl (fun k=>k=pf) w).setCell (a:=⟨pf,2,none⟩) (.inl rfl) (UE UL 0);have hm:=(fQ.trans (Mod.aq mZ)).setCell (a:=⟨pf,3,none⟩) (.inl rfl) (UG a1 l.length c1);have hlt:pf<(w.setCell ⟨pf,2,none⟩ (UE UL 0)).heap.size:=by simpa [World.setCell] using HY.o.bD.lt
 refine⟨rfl,UG a1 l.length c1,⟨oh.set 3 _,HY.o.wd.mod hm (fun k o hk ho=>?_),?_⟩,hm⟩
 ·subst hk;have hb:=HY.o.bD;unfold ax at hb;rw[hb] at ho;injection ho with ho;subst ho;exact⟨rfl,fun cur e=>by cases e⟩
 ·refine xG (bY hown ((Mod.refl (fun k=>k=pf) W).setCell (a:=⟨pf,3,none⟩) (.inl rfl) _) (fun k hk he=>?_)) (Nat.zero_le _);subst hk;have:=(aH hown he).1;omega
def Sy.RB(Y:Sy):Sy:={Y with count:=0,cC:=[],dead:=false}
theorem EW(h:bm w pf pw R pv Y) :
  Calls Tryz.prog 54 #[UH (some ⟨pf,0,none⟩)] w fun e w'=>e=.returned (UK #[])∧∃pv',bm w' pf pw R pv' Y.RB∧Mod (fun k=>k=pf) w w':=by
 have HN:=Ux (gK h);have fQ:=(Mod.refl (fun k=>k=pf) w).setCell (a:=⟨pf,4,none⟩) (.inl rfl) (.bool false);have eV:=h.vx fQ (Z:={Y with dead:=false}) rfl rfl (h.bD.set 4 (.bool false));have HP:=Ux (E2 eV (a:=none) (n:=0) (c:=0) (l:=[]) ⟨rfl,aa _,by omega,.inl rfl⟩ (fun b off h=>by cases h) (Nat.zero_le _));have HM:=Ux fQ;obtain⟨pc,pf',pz⟩:=h.bD.facts;clear h fQ eV;go_enter Tryz.func54,Tryz.ntmps54;go_wp2_with fail;refine HN.o.mono ?_;rintro e w1 ⟨rfl,rfl⟩;go_wp2_with fail;refine HP.o.mono ?_;rintro e w2 ⟨rfl,pv',xV,oy⟩;have HX:=Ux (ag xV oy);clear xV oy;go_wp2_with fail
 go_end0
 exact⟨rfl,pv',HX.o.1,HM.o.trans HX.o.2⟩
end
end
section
open Go.RowKit
theorem nu{tmps:Array Value}{W:World}{B:Nat}{y0 y1 y2 y3 y4 y5 y6 y7 y8 y9 e:Int}(hb:ax W B #[UE UL y0,UE UL y1,UE UL y2,UE UL y3,UE UL y4,UE UL y5,UE UL y6,UE UL y7,UE UL y8,UE UL y9] 67)
  (h8:tmps.getD 4 undef=UH (some ⟨B,0,none⟩)) (h9:tmps.getD 5 undef=UE UL e):(results Tryz.f14 tmps).run Tryz.prog W=.ok (UK #[UJ #[UE UL y0,UE UL y1,UE UL y2,UE UL y3,UE UL y4,UE UL y5,UE UL y6,UE UL y7,UE UL y8,UE UL y9],UE UL e]) W:=by
 have q0:=hb.cell 0;have q1:=hb.cell 1;have q2:=hb.cell 2;have q3:=hb.cell 3;have q4:=hb.cell 4;have q5:=hb.cell 5;have q6:=hb.cell 6;have q7:=hb.cell 7;have q8:=hb.cell 8;have q9:=hb.cell 9;rw[Array.getD_eq_getD_getElem?] at h8 h9;simp[results,Tryz.results14,go_sem,h8,h9,q0,q1,q2,q3,q4,q5,q6,q7,q8,q9]
section
variable{w w':World}{pf pw:Nat}{R:Rp}{pv:Value}{Y:Sy}
theorem jD(h:bm w pf pw R pv Y){N:Nat}(hk:ay Y.fs N)(hd:Y.dead=false)(no:Int) :
  Calls Tryz.prog 14 #[UH (some ⟨pf,0,none⟩),UE UL no] w fun e w'=>e=.returned (UK #[E1 (Y.fs.get no),UE UL (ep (Y.fs.get no))])∧UA w w':=by
 obtain⟨fh,aJ⟩:=Uz w #[UE UL 0,UE UL 0,UE UL 0,UE UL 0,UE UL 0,UE UL 0,UE UL 0,UE UL 0,UE UL 0,UE UL 0] 67;have HR:=Ux (fun w1 (av:UA w w1)=>iC (h.an av));rw[hd] at HR;have HS:=Ux (fun w1 (av:UA w w1)=>IB (h.wd.an av) hk no);obtain⟨pc,-,pz⟩:=h.bD.facts;have ni:=Ux (fun w1 (av:UA w w1)=>show w1.cell? ⟨pf,0,none⟩=some (UH (some ⟨pw,0,none⟩)) from(av.cell (p:=⟨pf,0,none⟩) pz).trans (pc 0));clear h hk hd pc pz
 cases hg:Y.fs.get no with
 |none=>
  rw[hg] at HS;unfold E1 ep at HS⊢;clear hg;go_enter Tryz.func14,Tryz.ntmps14;go_wp2_with fail;refine(HR.o _ aJ).mono ?_;rintro e w1 ⟨rfl,rfl⟩;generalize w.alloc _=W0 at fh aJ⊢;have gT:=Ux fh;have bC:=Ux aJ;have pc0:=ni.o _ aJ;clear fh aJ;go_wp2_with fail;refine(HS.o _ bC.o).mono ?_;rintro e w1 ⟨rfl,av⟩;have od:=gT.o.an av;have BP:=Ux od;have nk:=Ux (bC.o.trans (av.mono bC.o.size));obtain⟨rc,rf,rz⟩:=od.facts;clear od av;go_wp2_with fail;exact bodyPost_ret (nu BP.o.DP rfl rfl) rfl ⟨rfl,j8 nk.o (aa _)⟩
 |some d=>
  rw[hg] at HS;unfold E1 ep at HS⊢;clear hg;go_enter Tryz.func14,Tryz.ntmps14;go_wp2_with fail;refine(HR.o _ aJ).mono ?_;rintro e w1 ⟨rfl,rfl⟩;generalize w.alloc _=W0 at fh aJ⊢;have gT:=Ux fh;have bC:=Ux aJ;have pc0:=ni.o _ aJ;clear fh aJ;go_wp2_with fail;refine(HS.o _ bC.o).mono ?_;rintro e w1 ⟨rfl,av⟩;have od:=gT.o.an av;have BP:=Ux od;have nk:=Ux (bC.o.trans (av.mono bC.o.size));obtain⟨rc,rf,rz⟩:=od.facts;clear od av;go_wp2_with fail;exact bodyPost_ret (nu BP.o.DP rfl rfl) rfl ⟨rfl,j8 nk.o (aa _)⟩
theorem Cf(h:bm w pf pw R pv Y){N:Nat}(hk:ay Y.fs N)(hd:Y.dead=false)(c:Cr)(no:Int) :
  Calls Tryz.prog 40 #[UH (some ⟨pf,0,none⟩),UJ #[UE UL c.u,UE UL c.g],UE UL no] w fun e w'=>e=.returned (UK #[UF (Y.fs.read c no).1,UE UL (Y.fs.read c no).2])∧UA w w':=by
 obtain⟨ir,aJ⟩:=Uz w #[UE UL c.u,UE UL c.g] 64;have HR:=Ux (fun w1 (av:UA w w1)=>iC (h.an av));rw[hd] at HR;have HS:=Ux (fun w1 (av:UA w w1)=>Fv (h.wd.an av) hk c no);obtain⟨pc,-,pz⟩:=h.bD.facts;have ni:=Ux (fun w1 (av:UA w w1)=>show w1.cell? ⟨pf,0,none⟩=some (UH (some ⟨pw,0,none⟩)) from(av.cell (p:=⟨pf,0,none⟩) pz).trans (pc 0));have mixed:Tryz.prog.follows .mixedOrders=true:=by kernel_rfl
 generalize Y.fs.read c no=rd at HS⊢;clear h hk hd pc pz;go_enter Tryz.func40,Tryz.ntmps40;go_wp2_with fail;refine(HR.o _ aJ).mono ?_;rintro e w1 ⟨rfl,rfl⟩;generalize w.alloc _=W0 at ir aJ⊢;have bC:=Ux aJ;have pc0:=ni.o _ aJ;obtain⟨cc,-,cz⟩:=ir.facts;clear ir aJ;go_wp2_with fail;refine aG 6 mixed (by kernel_rfl) (show cn _ from by repeat (first|exact cS|refine cR ?_|refine cx ?_|refine cG ?_)) ?_;simp only[List.take_succ_cons,List.take_zero,List.drop_succ_cons,List.drop_zero]
 repeat still_step
 refine wpStill_nil ?_;go_wp2_with fail;refine(HS.o _ bC.o.drew).mono ?_;rintro e w1 ⟨rfl,av⟩;have HB:=Ux (bC.o.drew.trans (av.mono bC.o.size));clear av;go_wp2_with fail;go_ret2;exact⟨rfl,HB.o⟩
end
end
section
open Go.RowKit
def saR(cs:List Value)(x:List UInt8):Prop:=cs=rA x
def SA(w:World)(a:Option Addr)(n c:Nat)(l:List (List UInt8)):Prop:=bF w 1 saR a n c l
theorem SA.len{w:World}{a:Option Addr}{n c:Nat}{l:List (List UInt8)}(h:SA w a n c l):l.length=n:=h.1
theorem SA.xK{w:World}{base c:Nat}{a:Option Addr}{l:List (List UInt8)}(h:OS w base (UG a l.length c) l):SA w a l.length c l:=fe (R:=saR) (by omega) pj (fun _=>rfl) h
theorem SA.cell{w:World}{a:Option Addr}{n c:Nat}{l:List (List UInt8)}(h:SA w a n c l){b off:Nat}(ha:a=some ⟨b,off,none⟩)(k:Nat)(hk:k<l.length):w.cell? ⟨b,off+k,none⟩=some (UF (str l[k])):=by
 obtain⟨h1,-,-,h0|⟨b',off',he,hb,hel⟩⟩:=h
 ·omega
 ·rw[ha] at he;injection he with he;injection he with e1 e2;subst e1 e2;obtain⟨cs,h1,h2,h3⟩:=hel k hk;subst h2;have:=h3 0 (by simp[rA]);rw[Nat.mul_one,Nat.add_zero] at this;exact this
theorem SA.ej{w:World}{a:Option Addr}{n c:Nat}{l:List (List UInt8)}(h:SA w a n c l)(hn:0<n):∃b off,a=some ⟨b,off,none⟩∧b<w.heap.size:=by
 obtain⟨h1,-,-,h0|⟨b',off',he,hb,hel⟩⟩:=h
 ·omega
 ·exact⟨b',off',he,hb⟩
theorem SA.an{w w':World}{a:Option Addr}{n c:Nat}{l:List (List UInt8)}(h:SA w a n c l)(hb:UA w w'):SA w' a n c l:=by
 refine⟨h.1,h.2.1,h.2.2.1,h.2.2.2.imp id ?_⟩;rintro⟨b,off,rfl,hlt,hel⟩;refine⟨b,off,rfl,Nat.lt_of_lt_of_le hlt hb.size,fun i hi=>?_⟩;obtain⟨cs,h1,h2,h3⟩:=hel i hi;exact⟨cs,h1,h2,fun j hj=>(hb.cell (p:=⟨b,_,none⟩) hlt).trans (h3 j hj)⟩
theorem SA.lO{w:World}{a:Option Addr}{n c:Nat}{l:List (List UInt8)}(h:SA w a n c l){B:Nat}(hB:∀b off,a=some ⟨b,off,none⟩→b≠B)(i:Nat)(v:Value):SA (w.setCell ⟨B,i,none⟩ v) a n c l:=by
 refine⟨h.1,h.2.1,h.2.2.1,h.2.2.2.imp id ?_⟩;rintro⟨b,off,rfl,hlt,hel⟩;have hq:=Below.heap_setCell w ⟨B,i,none⟩ v b (hB b off rfl);refine⟨b,off,rfl,by simpa [World.setCell] using hlt,fun i hi=>?_⟩;obtain⟨cs,h1,h2,h3⟩:=hel i hi;refine⟨cs,h1,h2,fun j hj=>?_⟩;rw[←h3 j hj];simp only[World.cell?,hq]
theorem SA.tail{w:World}{a:Option Addr}{n c:Nat}{x:List UInt8}{l:List (List UInt8)}(h:SA w a n c (x::l)){b off:Nat}(ha:a=some ⟨b,off,none⟩):SA w (if c=1 then a else some ⟨b,off+1,none⟩) (n-1) (c-1) l:=by
 have hl:=h.1;obtain⟨-,h1,h2,h0|⟨b',off',he,hb,hel⟩⟩:=h
 ·simp at hl;omega
 ·rw[ha] at he;injection he with he;injection he with e1 e2;subst e1 e2;have hl':l.length=n-1:=by simp at hl;omega
  have j6:1≤n:=by rw[←hl];simp
  refine⟨hl',by omega,by omega,?_⟩;by_cases hn:n=1
  ·exact .inl (by omega)
  ·refine .inr ⟨b,off+1,by rw[if_neg (by omega)],hb,fun i hi=>?_⟩;obtain⟨cs,h3,h4,h5⟩:=hel (i+1) (by simp;omega);refine⟨cs,h3,by simpa using h4,fun j hj=>?_⟩;rw[←h5 j hj];congr 2;omega
theorem xu{w:World}{base:Nat}{v:Value}{ps:List (List UInt8)}{a:Option Addr}{n c:Nat}{l:List (List UInt8)}(hO:OS w base v ps)(hS:SA w a n c l)(hl:ps.length+l.length≤1000000)(hbase:base≤w.heap.size) :
  ∃a' n' c' W,(Builtin.append_ #[240,240] 240 #[v,UG a n c]).run Tryz.prog w=.ok (UG a' n' c') W∧SA W a' n' c' (ps++l)∧(∀b off,a'=some ⟨b,off,none⟩→base≤b)∧Below base w W:=by
 obtain⟨i0,hi,kp,fj,fo⟩:=info_parts sq;have hln:=hS.len
 cases l with
 |nil=>
  obtain rfl:n=0:=by simpa using hln.symm
  obtain⟨a1,c1,rfl,-,-,hf⟩:=bQ hO;refine⟨a1,ps.length,c1,w,jq _ Tryz.underlying240 hi hO a c,?_,?_,Below.refl _ _⟩
  ·rw[List.append_nil];exact SA.xK hO
  ·rintro b off rfl;rcases hf with⟨h,-⟩|⟨g,h,hb,-⟩
   ·cases h
   ·injection h with h;injection h with h1 h2;omega
 |cons x l=>
  have hn:0<n:=by rw[←hln];simp
  obtain⟨b,off,rfl,hb⟩:=hS.ej hn;obtain⟨g,cap,W,h1,h2,h3,h4⟩:=eX 240 Tryz.underlying240 hi kp fj fo rfl (by omega) hO ⟨b,off,none⟩ n c ((x::l).flatMap rA) (by rw[cJ pj,hln])
   (fun j u hu=>by
    have he:(x::l).flatMap rA=(x::l).map (fun y=>Value.string (str y)):=by
     generalize (x::l)=m
     induction m with
     |nil=>rfl
     |cons y m ih=>simp only[List.flatMap_cons,rA,List.map_cons,ih];rfl
    rw[he,List.getElem?_map] at hu;obtain⟨y,hy,rfl⟩:=Option.map_eq_some_iff.1 hu;obtain⟨hj,rfl⟩:=List.getElem?_eq_some_iff.1 hy;have:=hS.cell rfl j hj;by_cases h0:j=0
    ·subst h0;simpa [Addr.add] using this
    ·simpa [Addr.add,h0] using this)
   (by intro u hu;obtain⟨y,-,hy⟩:=List.mem_flatMap.1 hu;simp[rA] at hy;subst hy;rfl) hn (by unfold maxLen;omega) (by omega) hbase
  have lV:OS W base (.slice (some ⟨g,0,none⟩) (ps++x::l).length cap) (ps++x::l):=by
   unfold OS;rw[List.length_append,List.flatMap_append,hln];exact h2
  refine⟨_,_,_,W,h1,?_,?_,h3.below (fun k hk=>(hO.lt k hk).1) hbase⟩
  ·have:=SA.xK lV
   rwa [List.length_append,hln] at this
  ·rintro b' off' h;injection h with h;injection h with h;subst h;exact(jN h2).2.1
def fD(w:World)(Bt pw:Nat)(c:Cr)(k:Int)(ta:Option Addr)(tl tc:Nat)(hops:Int)(must:Bool):Prop:=
 ax w Bt #[UH (some ⟨pw,0,none⟩),UE UL c.u,UE UL c.g,UE UL k,UG ta tl tc,UE UL hops,.bool must] 262
theorem GK{B:Nat}{w w':World}(h:UA w w'):Mod (fun k=>k=B) w w':=Mod.aq h
def FlP(w:World)(Bt pw:Nat)(c:Cr)(k hops:Int)(must:Bool)(l:List (List UInt8))(s:ByteArray)(e:Ending)(w':World):Prop:=
 Mod (fun k=>k=Bt) w w'∧
   ((8<hops+1∧e=.returned (UE UL 12))∨(hops+1≤8∧s.data.toList=[]∧e=.returned (UE UL 5))∨
    (hops+1≤8∧s.data.toList≠[]∧e=.returned (UE UL 0)∧∃ta' tl' tc',fD w' Bt pw c (if s.data.toList.head?=some 47 then 1 else k) ta' tl' tc' (hops+1) (if l=[] then must||fx s.data.toList else must)∧
     SA w' ta' tl' tc' (b8 s.data.toList++l)∧∀b off,ta'=some ⟨b,off,none⟩→w.heap.size≤b))
theorem De{w:World}{Bt pw:Nat}{c:Cr}{k:Int}{ta:Option Addr}{tl tc:Nat}{hops:Int}{must:Bool}(hb:fD w Bt pw c k ta tl tc hops must){l:List (List UInt8)}(hl:SA w ta tl tc l)(hta:∀b off,ta=some ⟨b,off,none⟩→b≠Bt)(s:ByteArray)(hs:s.size≤4096)(hll:l.length≤900000)(hh:0≤hops∧hops≤100) :
  Calls Tryz.prog 164 #[UH (some ⟨Bt,0,none⟩),UF s] w fun e w'=>FlP w Bt pw c k hops must l s e w':=by
 unfold fD at hb;have HB:=Ux hb;have HL:=Ux hl;obtain⟨bc,bf,bz⟩:=hb.facts;obtain⟨hh0,N0⟩:=hh;have hlen:=hl.len;have htl:tl≤900000:=by omega
 have Ns:=Ux hta;have Ug:=Ux hlen;clear hb hl hta hlen;by_cases h1:8<hops+1
 ·have Q0:(8:Int)<hops+1:=h1;have MU:(7:Int)<hops:=by omega
  have h1c:(8:Int)≤hops:=by omega
  go_enter Tryz.func164,Tryz.ntmps164;go_wp2_with fail;go_ret;exact⟨(Mod.refl (fun k=>k=Bt) w).setCell (a:=⟨Bt,5,none⟩) (.inl rfl) _,.inl ⟨h1,rfl⟩⟩
 ·have kR:hops+1≤8:=by omega
  have h2a:hops≤7:=by omega
  by_cases h3:s.data.toList=[]
  ·have tR:s.toList=[]:=by rw[cd];exact h3
   have HE:=Ux h3;clear h1 h3;go_enter Tryz.func164,Tryz.ntmps164;go_wp2_with fail;go_ret;exact⟨(Mod.refl (fun k=>k=Bt) w).setCell (a:=⟨Bt,5,none⟩) (.inl rfl) _,.inr (.inl ⟨kR,HE.o,rfl⟩)⟩
  ·have tR:s.toList.isEmpty=false:=by rw[cd];simpa using h3
   have uH:0<s.size:=by
    have:s.data.toList.length=s.size:=Array.length_toList;rcases Nat.eq_zero_or_pos s.size with h|h
    ·exact absurd (List.eq_nil_of_length_eq_zero (by omega)) h3
    ·exact h
   have HE:=Ux h3;have hhd:s.data.toList.head?=some s[0]:=by
    rw[List.head?_eq_getElem?,List.getElem?_eq_getElem (by rw[Array.length_toList];exact uH)];rfl
   obtain⟨at2,SV⟩:∃x:Int,x=if s.data.toList.head?=some 47 then 1 else k:=⟨_,rfl⟩;have Hy:=Ux SV;have Qo:=Ux hhd;have h1n:¬(8:Int)<hops+1:=h1;clear h1 h3 SV hhd;go_enter Tryz.func164,Tryz.ntmps164;go_upto_if 21 with fail
   go_cut [] (fun wx=>fD wx Bt pw c at2 ta tl tc (hops+1) must∧SA wx ta tl tc l∧Mod (fun k=>k=Bt) w wx)
   case first=>
    by_cases qg:s[0]=47
    ·have jH:((s[0].toNat:Int)==47)=true:=by rw[qg];rfl
     have pG:=Ux (show at2=1 by rw[Hy.o,Qo.o,qg];rfl);clear qg;go_wp2_with fail;go_meet;rw[pG.o];exact⟨(HB.o.set 5 _).set 3 _,(HL.o.lO Ns.o 5 _).lO Ns.o 3 _,((Mod.refl (fun k=>k=Bt) w).setCell (a:=⟨Bt,5,none⟩) (.inl rfl) _).setCell (a:=⟨Bt,3,none⟩) (.inl rfl) _⟩
    ·have jH:((s[0].toNat:Int)==47)=false:=by
      simp only[beq_eq_false_iff_ne,ne_eq];intro h;exact qg (by rw[nq];show s[0].toNat=47;omega)
     have pG:=Ux (show at2=k by rw[Hy.o,Qo.o,if_neg (by intro e;injection e with e;exact qg e)]);clear qg;go_wp2_with fail;go_meet;rw[pG.o];exact⟨HB.o.set 5 _,HL.o.lO Ns.o 5 _,(Mod.refl (fun k=>k=Bt) w).setCell (a:=⟨Bt,5,none⟩) (.inl rfl) _⟩
   case rest=>
    obtain⟨hb,hl,hm⟩:=hcut;generalize wc=wa at hb hl hm⊢;unfold fD at hb;have dX:=Ux hb;have HL1:=Ux hl;have BF:=Ux hm;have O8:=hm.size;obtain⟨m2,oy⟩:∃x:Bool,x=if l=[] then must||fx s.data.toList else must:=⟨_,rfl⟩;have rW:=Ux oy;have K4:=Ux (fun w=>vD s w (by omega));clear bc bf bz;obtain⟨bc,bf,bz⟩:=hb.facts;clear hb hl hm oy;generalize hsl:fx s.data.toList=sl at K4 rW;have HSLe:=Ux hsl;clear hsl;go_upto_if 30 with fail
    go_cut [] (fun wx=>fD wx Bt pw c at2 ta tl tc (hops+1) m2∧SA wx ta tl tc l∧Mod (fun k=>k=Bt) w wx)
    case first=>
     by_cases fk:l=[]
     ·have pG:=Ux (show m2=(must||sl) by rw[rW.o,if_pos fk]);have AH:tl=0:=by rw[←Ug.o,fk];rfl
      subst AH;clear fk
      cases must with
      |true=>
       go_wp2_with fail;go_meet;rw[pG.o];exact⟨dX.o.set 6 _,HL1.o.lO Ns.o 6 _,BF.o.setCell (a:=⟨Bt,6,none⟩) (.inl rfl) _⟩
      |false=>
       go_wp2_with (refine(K4.o _).mono ?_;rintro e w1 ⟨rfl,rfl⟩);go_meet;rw[pG.o];exact⟨dX.o.set 6 _,HL1.o.lO Ns.o 6 _,BF.o.setCell (a:=⟨Bt,6,none⟩) (.inl rfl) _⟩
     ·have pG:=Ux (show m2=must by rw[rW.o,if_neg fk]);have AH:0<tl:=by rw[←Ug.o];exact List.length_pos_iff.2 fk
      have yT:((tl:Int)==0)=false:=by simp;omega
      clear fk;go_wp2_with fail;go_meet;rw[pG.o];exact⟨dX.o,HL1.o,BF.o⟩
    case rest=>
     obtain⟨hb,hl,hm⟩:=hcut;generalize wc=wb at hb hl hm⊢;unfold fD at hb;have ei:=Ux hb;have HL2:=Ux hl;have Lb:=Ux hm;have HPs:=Ux (fun w=>s9 s w);have Um:=Ux (show Calls Tryz.prog 160 #[.func (.func 191) #[] #[UH (some ⟨wb.heap.size,0,none⟩)]] (wb.alloc (.cells #[UF s] 9)).drew (fun e w'=>(∃v,e=.returned v∧OS w' wb.heap.size v (b8 s.data.toList))∧UA wb w') from(oN s (by omega) wb.drew).mono (fun e w' h=>⟨h.1,(Below.refl _ _).drew.trans h.2⟩));have ks:=Ux (show(b8 s.data.toList).length+l.length≤1000000 by
      have h1:=jE s.data.toList;have h2:s.data.toList.length=s.size:=Array.length_toList;omega)
     clear bc bf bz;obtain⟨bc,bf,bz⟩:=hb.facts;clear hb hl hm;go_wp2_with fail;have mixed:Tryz.prog.follows .mixedOrders=true:=by kernel_rfl
     go_region_law_o (first
      |(refine kZ rfl rfl rfl rfl hrun ?_)
      |(go_simp;go_at_call 161;((with_reducible refine(HPs.o _).mono ?_);rintro e w3 ⟨rfl,rfl⟩))
      |(go_simp;go_at_call 160;((with_reducible refine Um.o.mono ?_);rintro e w4 ⟨⟨v,rfl,yX⟩,JA⟩;have k4:=ei.o.an JA;obtain⟨a',n',c',W,hrun,rP,hab,oh⟩:=xu yX (HL2.o.an JA) ks.o JA.size;have kW:=k4.nC oh ei.o.lt;obtain⟨c4,f4,z4⟩:=k4.facts;obtain⟨cW,fW,zW⟩:=kW.facts;have HX:=Ux (ag rP (ag hab (ag kW (JA.trans oh))));clear rP hab kW k4 JA oh yX)))
     all_goals
      go_wp2_with fail;go_ret;obtain⟨rP,hab,kW,mZ⟩:=HX.o;refine⟨Lb.o.trans ((GK mZ).setCell (a:=⟨Bt,4,none⟩) (.inl rfl) _),.inr (.inr ⟨kR,HE.o,rfl,a',n',c',?_,rP.lO (fun b off h=>by have q1:=hab b off h;have q2:=ei.o.lt;omega) 4 _,fun b off h=>ae Lb.o.size (hab b off h)⟩)⟩;rw[←Hy.o,HSLe.o,←rW.o];exact kW.set 4 _
end
end Go.Proofs.YtabbjaomlmnnhaaGreat
