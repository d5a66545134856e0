import Derived.Deep.CutBlock
import Derived.Deep.DeepCutAuto
import Derived.RegionTactic
import Derived.BigRegion
import Derived.Deep.QuietTactic
import Derived.BigQuiet
import Derived.WalkSmall
import Derived.Test.YtabbjaomlmnnhaaGreatCO14
import Derived.Test.YtabbjaomlmnnhaaGreatCO13
import Derived.Test.YtabbjaomlmnnhaaGreatCO11
import Derived.Test.YtabbjaomlmnnhaaGreatCO6
import Derived.Test.YtabbjaomlmnnhaaGreatCO4
import Derived.Test.YtabbjaomlmnnhaaGreatCO12
import Derived.Test.YtabbjaomlmnnhaaGreatCO5
import Derived.Test.YtabbjaomlmnnhaaGreatCO8
import Derived.Test.YtabbjaomlmnnhaaGreatCO10
set_option linter.unusedVariables false
set_option linter.unusedSimpArgs false
set_option maxRecDepth 100000
set_option maxHeartbeats 16000000
namespace Go.Proofs.YtabbjaomlmnnhaaGreat
open Go.Value renaming int→UE,string→UF,slice→UG,pointer→UH,agg→UJ,tuple→UK
open Go.IntKind renaming i64→UL
section
open Go.RowKit
section
variable{w w':World}{pf:Nat}{R:Rf}{S:Fs}
theorem pS(h:aW w pf R S)(no:Int)(hg:S.get no=none) :
  Calls Tryz.prog 138 #[UH (some ⟨pf,0,none⟩),UJ #[UE UL 0,UE UL 0],UE UL no] w fun e w'=>e=.returned (UE UL 5)∧UA w w':=by
 have de:=(Below.refl _ w).alloc (aa _) (.cells #[UE UL 0,UE UL 0] 64);have HG:=Ux (mM (h.an de) hg);have cB:=Ux de;unfold An.v dD at HG;clear h hg de;go_enter Tryz.func138,Tryz.ntmps138;go_wp2_with fail;refine HG.o.mono ?_;rintro e w1 ⟨rfl,av⟩;have HB:=Ux (ao (ar cB.o av) (.cells #[UE UL 0,UE UL 0,UE UL 0,UE UL 0,UE UL 0,UE UL 0,UE UL 0,UE UL 0,UE UL 0,UE UL 0,UF ByteArray.empty,UG none 0 0] 149));clear av;go_wp2_with fail;go_ret;exact⟨rfl,HB.o⟩
theorem nP(h:aW w pf R S){N:Nat}(hk:ay S N)(no:Int){a:An}(hg:S.get no=some a) :
  Calls Tryz.prog 138 #[UH (some ⟨pf,0,none⟩),UJ #[UE UL 0,UE UL 0],UE UL no] w fun e w'=>e=.returned (UE UL 0)∧UA w w':=by
 obtain⟨-,hno,j6,-⟩:=hk.get hg;have hz:(a.no==0)=false:=by simp only[beq_eq_false_iff_ne,ne_eq];omega
 have de:=(Below.refl _ w).alloc (aa _) (.cells #[UE UL 0,UE UL 0] 64);obtain⟨ea,el,ec,-,hG⟩:=l6 (h.an de) hg;have HG:=Ux hG;have HO:=Ux (fun w=>zY a ea el ec w);have jH:=ax.new w #[UE UL 0,UE UL 0] 64;have vt:=Ux jH;have cB:=Ux de;unfold An.v at HG HO;clear h hk hg de hG hno jH;go_enter Tryz.func138,Tryz.ntmps138;go_wp2_with fail;refine HG.o.mono ?_;rintro e w1 ⟨rfl,av⟩;have fE:=(vt.o.an av).bI (.cells #[UE UL a.no,UE UL a.dev,UE UL a.kind,UE UL a.mode,UE UL a.uid,UE UL a.gid,UE UL a.mtime,UE UL a.ctime,UE UL a.ak,UE UL a.up,UF a.data,UG ea el ec] 149);have iG:=ax.new w1 #[UE UL a.no,UE UL a.dev,UE UL a.kind,UE UL a.mode,UE UL a.uid,UE UL a.gid,UE UL a.mtime,UE UL a.ctime,UE UL a.ak,UE UL a.up,UF a.data,UG ea el ec] 149;have hbb:=ao (ar cB.o av) (.cells #[UE UL a.no,UE UL a.dev,UE UL a.kind,UE UL a.mode,UE UL a.uid,UE UL a.gid,UE UL a.mtime,UE UL a.ctime,UE UL a.ak,UE UL a.up,UF a.data,UG ea el ec] 149);go_upto_region 2 with fail;generalize w1.alloc _=X at fE iG hbb⊢;have jZ:=Ux hbb;obtain⟨dc,-,-⟩:=iG.facts;obtain⟨cc,-,-⟩:=fE.facts;clear av fE iG hbb;go_wp2_with fail;refine(HO.o _).mono ?_;rintro e w2 ⟨rfl,aY⟩;have ei:=Ux (ar jZ.o aY);clear aY;go_wp2_with fail;go_ret;exact⟨rfl,ei.o⟩
theorem E9(h:aW w pf R S){N:Nat}(hk:ay S N)(no:Int)(t:Int) :
  Calls Tryz.prog 97 #[UH (some ⟨pf,0,none⟩),UJ #[UE UL 0,UE UL 0],UE UL no,UE UL t] w fun e w'=>e=.returned (UE UL (S.ct cw R.now no t).2)∧∃R',aW w' pf R' (S.ct cw R.now no t).1∧aS (R.F pf) (R'.F pf) w w'∧Rf.cY R R':=by
 have hkeep:∀w2,UA w w2→∃R',aW w2 pf R' S∧aS (R.F pf) (R'.F pf) w w2∧Rf.cY R R':=fun w2 hb=>⟨R,h.an hb,aS.aq hb,Rf.cY.refl R⟩;have kT:=Ux hkeep;have de:=(Below.refl _ w).alloc (aa _) (.cells #[UE UL 0,UE UL 0] 64);have cB:=Ux de
 cases hg:S.get no with
 |none=>
  have HQ:=Ux (show S.ct cw R.now no t=(S,5) by unfold Fs.ct;rw[hg]);have HO:=Ux (pS (h.an de) no hg);clear h hk hg hkeep de;go_enter Tryz.func97,Tryz.ntmps97;go_wp2_with fail;refine HO.o.mono ?_;rintro e w1 ⟨rfl,av⟩;have HB:=Ux (ar cB.o av);clear av;go_wp2_with fail;go_ret;rw[HQ.o];exact⟨rfl,kT.o _ HB.o⟩
 |some a=>
  have hno:=bV hg;have HO:=Ux (nP (h.an de) hk no hg);obtain⟨ea,el,ec,hE,hG⟩:=jM h hg;have HG:=Ux hG;have ey:=Ux (fun w1 (hb:UA w w1)=>kA (h.an hb) hk.nums (a:={a with mtime:=t,ctime:=R.now}) (hE.an hb) (b:=a) (by show S.get a.no=some a;rw[hno];exact hg));have jH:=ax.new w #[UE UL 0,UE UL 0] 64;have vt:=Ux jH;have pE:=Ux (show S.ct cw R.now no t=(if t<0∨253402300799<t then(S,1) else(S.set {a with mtime:=t,ctime:=R.now},0)) by unfold Fs.ct;rw[hg];rfl);obtain⟨pc,-,pz⟩:=h.bD.facts;unfold An.v at HG ey;generalize hnow:R.now=now at pE ey pc;have HHk:=Ux h;clear h hk hg hkeep de hG hE jH hno hnow;by_cases h1:t<0
  ·have HQ:=Ux (pE.o.trans (if_pos (.inl h1)));go_enter Tryz.func97,Tryz.ntmps97;go_wp2_with fail;refine HO.o.mono ?_;rintro e w1 ⟨rfl,av⟩;have fE:=vt.o.an av;have hbb:=ar cB.o av;have vr:=Ux fE;have jZ:=Ux hbb;obtain⟨cc,-,-⟩:=fE.facts;have pc2:=(hbb.cell (p:=⟨pf,3,none⟩) pz).trans (pc 3);clear av fE hbb;go_wp2_with fail;go_ret;rw[HQ.o];exact⟨rfl,kT.o _ jZ.o⟩
  ·by_cases h2:253402300799<t
   ·have HQ:=Ux (pE.o.trans (if_pos (.inr h2)));go_enter Tryz.func97,Tryz.ntmps97;go_wp2_with fail;refine HO.o.mono ?_;rintro e w1 ⟨rfl,av⟩;have fE:=vt.o.an av;have hbb:=ar cB.o av;have vr:=Ux fE;have jZ:=Ux hbb;obtain⟨cc,-,-⟩:=fE.facts;have pc2:=(hbb.cell (p:=⟨pf,3,none⟩) pz).trans (pc 3);clear av fE hbb;go_wp2_with fail;go_ret;rw[HQ.o];exact⟨rfl,kT.o _ jZ.o⟩
   ·have HQ:=Ux (pE.o.trans (if_neg (by omega)));go_enter Tryz.func97,Tryz.ntmps97;go_wp2_with fail;refine HO.o.mono ?_;rintro e w1 ⟨rfl,av⟩;have fE:=vt.o.an av;have hbb:=ar cB.o av;have vr:=Ux fE;have jZ:=Ux hbb;obtain⟨cc,-,-⟩:=fE.facts;have pc2:=(hbb.cell (p:=⟨pf,3,none⟩) pz).trans (pc 3);clear av fE hbb;go_wp2_with fail;refine(HG.o _ jZ.o).mono ?_;rintro e w2 ⟨rfl,aY⟩;have pc3:=(aY.cell (p:=⟨pf,3,none⟩) (Nat.lt_of_lt_of_le pz jZ.o.size)).trans pc2;have F1:pf<w2.heap.size:=Nat.lt_of_lt_of_le (Nat.lt_of_lt_of_le pz jZ.o.size) aY.size;have aJ:=ao (ar jZ.o aY) (.cells #[UE UL a.no,UE UL a.dev,UE UL a.kind,UE UL a.mode,UE UL a.uid,UE UL a.gid,UE UL t,UE UL now,UE UL a.ak,UE UL a.up,UF a.data,UG ea el ec] 149);have HS:=Ux (ey.o _ aJ);have bC:=Ux aJ;clear aY aJ pc pc2;go_wp2_with fail;refine HS.o.mono ?_;rintro e w5 ⟨rfl,R',ez,dw,gN,-⟩;have HR:=Ux (ag ez (ag dw gN));clear ez dw gN;go_wp2_with fail;go_ret;rw[HQ.o];exact⟨rfl,R',HR.o.1,(aS.aq bC.o).trans HR.o.2.1,HR.o.2.2⟩
theorem Cq(h:aW w pf R S){N:Nat}(hk:ay S N)(no:Int)(u g:Int) :
  Calls Tryz.prog 95 #[UH (some ⟨pf,0,none⟩),UJ #[UE UL 0,UE UL 0],UE UL no,UE UL u,UE UL g] w fun e w'=>e=.returned (UE UL (S.cy cw R.now no u g).2)∧∃R',aW w' pf R' (S.cy cw R.now no u g).1∧aS (R.F pf) (R'.F pf) w w'∧Rf.cY R R':=by
 have hkeep:∀w2,UA w w2→∃R',aW w2 pf R' S∧aS (R.F pf) (R'.F pf) w w2∧Rf.cY R R':=fun w2 hb=>⟨R,h.an hb,aS.aq hb,Rf.cY.refl R⟩;have kT:=Ux hkeep;have de:=(Below.refl _ w).alloc (aa _) (.cells #[UE UL 0,UE UL 0] 64);have cB:=Ux de
 cases hg:S.get no with
 |none=>
  have HQ:=Ux (show S.cy cw R.now no u g=(S,5) by unfold Fs.cy;rw[hg]);have HO:=Ux (pS (h.an de) no hg);clear h hk hg hkeep de;go_enter Tryz.func95,Tryz.ntmps95;go_wp2_with fail;refine HO.o.mono ?_;rintro e w1 ⟨rfl,av⟩;have HB:=Ux (ar cB.o av);clear av;go_wp2_with fail;go_ret;rw[HQ.o];exact⟨rfl,kT.o _ HB.o⟩
 |some a=>
  have hno:=bV hg;have HO:=Ux (nP (h.an de) hk no hg);obtain⟨ea,el,ec,hE,hG⟩:=jM h hg;have HG:=Ux hG;have ey:=Ux (fun w1 (hb:UA w w1)=>kA (h.an hb) hk.nums (a:={a with uid:=u,gid:=g,ctime:=R.now}) (hE.an hb) (b:=a) (by show S.get a.no=some a;rw[hno];exact hg));have wV:=Ux (fun w=>Ct u g w);have jH:=ax.new w #[UE UL 0,UE UL 0] 64;have vt:=Ux jH;have pE:=Ux (show S.cy cw R.now no u g=(if KP u g=false then(S,1) else(S.set {a with uid:=u,gid:=g,ctime:=R.now},0)) by unfold Fs.cy;rw[hg];rfl);obtain⟨pc,-,pz⟩:=h.bD.facts;unfold An.v at HG ey;generalize hnow:R.now=now at pE ey pc;have HHk:=Ux h;clear h hk hg hkeep de hG hE jH hno hnow
  cases hid:KP u g with
  |false=>
   have HQ:=Ux (pE.o.trans (if_pos hid));rw[hid] at wV;clear hid;go_enter Tryz.func95,Tryz.ntmps95;go_wp2_with fail;refine HO.o.mono ?_;rintro e w1 ⟨rfl,av⟩;have fE:=vt.o.an av;have hbb:=ar cB.o av;have vr:=Ux fE;have jZ:=Ux hbb;obtain⟨cc,-,-⟩:=fE.facts;have pc2:=(hbb.cell (p:=⟨pf,3,none⟩) pz).trans (pc 3);clear av fE hbb;go_wp2_with fail;refine(wV.o _).mono ?_;rintro e w3 ⟨rfl,cl⟩;have CV:=ar jZ.o cl;have pc4:=(CV.cell (p:=⟨pf,3,none⟩) pz).trans (pc 3)
   replace jZ:=Ux CV
   replace pc2:=pc4
   clear cl CV pc4;go_wp2_with fail;go_ret;rw[HQ.o];exact⟨rfl,kT.o _ jZ.o⟩
  |true=>
   have HQ:=Ux (pE.o.trans (if_neg (by rw[hid];decide)));rw[hid] at wV;clear hid;go_enter Tryz.func95,Tryz.ntmps95;go_wp2_with fail;refine HO.o.mono ?_;rintro e w1 ⟨rfl,av⟩;have fE:=vt.o.an av;have hbb:=ar cB.o av;have vr:=Ux fE;have jZ:=Ux hbb;obtain⟨cc,-,-⟩:=fE.facts;have pc2:=(hbb.cell (p:=⟨pf,3,none⟩) pz).trans (pc 3);clear av fE hbb;go_wp2_with fail;refine(wV.o _).mono ?_;rintro e w3 ⟨rfl,cl⟩;have CV:=ar jZ.o cl;have pc4:=(CV.cell (p:=⟨pf,3,none⟩) pz).trans (pc 3)
   replace jZ:=Ux CV
   replace pc2:=pc4
   clear cl CV pc4;go_wp2_with fail;refine(HG.o _ jZ.o).mono ?_;rintro e w2 ⟨rfl,aY⟩;have pc3:=(aY.cell (p:=⟨pf,3,none⟩) (Nat.lt_of_lt_of_le pz jZ.o.size)).trans pc2;have F1:pf<w2.heap.size:=Nat.lt_of_lt_of_le (Nat.lt_of_lt_of_le pz jZ.o.size) aY.size;have aJ:=ao (ar jZ.o aY) (.cells #[UE UL a.no,UE UL a.dev,UE UL a.kind,UE UL a.mode,UE UL u,UE UL g,UE UL a.mtime,UE UL now,UE UL a.ak,UE UL a.up,UF a.data,UG ea el ec] 149);have HS:=Ux (ey.o _ aJ);have bC:=Ux aJ;clear aY aJ pc pc2;go_wp2_with fail;refine HS.o.mono ?_;rintro e w5 ⟨rfl,R',ez,dw,gN,-⟩;have HR:=Ux (ag ez (ag dw gN));clear ez dw gN;go_wp2_with fail;go_ret;rw[HQ.o];exact⟨rfl,R',HR.o.1,(aS.aq bC.o).trans HR.o.2.1,HR.o.2.2⟩
theorem Fe(h:aW w pf R S){N:Nat}(hk:ay S N)(no:Int)(m:Int) :
  Calls Tryz.prog 96 #[UH (some ⟨pf,0,none⟩),UJ #[UE UL 0,UE UL 0],UE UL no,UE UL m] w fun e w'=>e=.returned (UE UL (S.cq cw R.now no m).2)∧∃R',aW w' pf R' (S.cq cw R.now no m).1∧aS (R.F pf) (R'.F pf) w w'∧Rf.cY R R':=by
 have hkeep:∀w2,UA w w2→∃R',aW w2 pf R' S∧aS (R.F pf) (R'.F pf) w w2∧Rf.cY R R':=fun w2 hb=>⟨R,h.an hb,aS.aq hb,Rf.cY.refl R⟩;have kT:=Ux hkeep;have de:=(Below.refl _ w).alloc (aa _) (.cells #[UE UL 0,UE UL 0] 64);have cB:=Ux de
 cases hg:S.get no with
 |none=>
  have HQ:=Ux (show S.cq cw R.now no m=(S,5) by unfold Fs.cq;rw[hg]);have HO:=Ux (pS (h.an de) no hg);clear h hk hg hkeep de;go_enter Tryz.func96,Tryz.ntmps96;go_wp2_with fail;refine HO.o.mono ?_;rintro e w1 ⟨rfl,av⟩;have HB:=Ux (ar cB.o av);clear av;go_wp2_with fail;go_ret;rw[HQ.o];exact⟨rfl,kT.o _ HB.o⟩
 |some a=>
  have hno:=bV hg;have HO:=Ux (nP (h.an de) hk no hg);obtain⟨ea,el,ec,hE,hG⟩:=jM h hg;have HG:=Ux hG;have ey:=Ux (fun w1 (hb:UA w w1)=>kA (h.an hb) hk.nums (a:={a with mode:=m,ctime:=R.now}) (hE.an hb) (b:=a) (by show S.get a.no=some a;rw[hno];exact hg));have jH:=ax.new w #[UE UL 0,UE UL 0] 64;have vt:=Ux jH;have pE:=Ux (show S.cq cw R.now no m=(if m<0∨1023<m∨a.kind=3 then(S,1) else(S.set {a with mode:=m,ctime:=R.now},0)) by unfold Fs.cq;rw[hg];rfl);obtain⟨pc,-,pz⟩:=h.bD.facts;unfold An.v at HG ey;generalize hnow:R.now=now at pE ey pc;have HHk:=Ux h;clear h hk hg hkeep de hG hE jH hno hnow;by_cases h1:m<0
  ·have HQ:=Ux (pE.o.trans (if_pos (.inl h1)));go_enter Tryz.func96,Tryz.ntmps96;go_wp2_with fail;refine HO.o.mono ?_;rintro e w1 ⟨rfl,av⟩;have fE:=vt.o.an av;have hbb:=ar cB.o av;have vr:=Ux fE;have jZ:=Ux hbb;obtain⟨cc,-,-⟩:=fE.facts;have pc2:=(hbb.cell (p:=⟨pf,3,none⟩) pz).trans (pc 3);clear av fE hbb;go_wp2_with fail;refine(HG.o _ jZ.o).mono ?_;rintro e w2 ⟨rfl,aY⟩;have rF:=Ux (ao (ar jZ.o aY) (.cells #[UE UL a.no,UE UL a.dev,UE UL a.kind,UE UL a.mode,UE UL a.uid,UE UL a.gid,UE UL a.mtime,UE UL a.ctime,UE UL a.ak,UE UL a.up,UF a.data,UG ea el ec] 149));clear aY;go_wp2_with fail;go_ret;rw[HQ.o];exact⟨rfl,kT.o _ rF.o⟩
  ·by_cases h2:1023<m
   ·have HQ:=Ux (pE.o.trans (if_pos (.inr (.inl h2))));go_enter Tryz.func96,Tryz.ntmps96;go_wp2_with fail;refine HO.o.mono ?_;rintro e w1 ⟨rfl,av⟩;have fE:=vt.o.an av;have hbb:=ar cB.o av;have vr:=Ux fE;have jZ:=Ux hbb;obtain⟨cc,-,-⟩:=fE.facts;have pc2:=(hbb.cell (p:=⟨pf,3,none⟩) pz).trans (pc 3);clear av fE hbb;go_wp2_with fail;refine(HG.o _ jZ.o).mono ?_;rintro e w2 ⟨rfl,aY⟩;have rF:=Ux (ao (ar jZ.o aY) (.cells #[UE UL a.no,UE UL a.dev,UE UL a.kind,UE UL a.mode,UE UL a.uid,UE UL a.gid,UE UL a.mtime,UE UL a.ctime,UE UL a.ak,UE UL a.up,UF a.data,UG ea el ec] 149));clear aY;go_wp2_with fail;go_ret;rw[HQ.o];exact⟨rfl,kT.o _ rF.o⟩
   ·by_cases h3:a.kind=3
    ·have HQ:=Ux (pE.o.trans (if_pos (.inr (.inr h3))));have q3:(a.kind==3)=true:=by simpa using h3
     clear h3;go_enter Tryz.func96,Tryz.ntmps96;go_wp2_with fail;refine HO.o.mono ?_;rintro e w1 ⟨rfl,av⟩;have fE:=vt.o.an av;have hbb:=ar cB.o av;have vr:=Ux fE;have jZ:=Ux hbb;obtain⟨cc,-,-⟩:=fE.facts;have pc2:=(hbb.cell (p:=⟨pf,3,none⟩) pz).trans (pc 3);clear av fE hbb;go_wp2_with fail;refine(HG.o _ jZ.o).mono ?_;rintro e w2 ⟨rfl,aY⟩;have rF:=Ux (ao (ar jZ.o aY) (.cells #[UE UL a.no,UE UL a.dev,UE UL a.kind,UE UL a.mode,UE UL a.uid,UE UL a.gid,UE UL a.mtime,UE UL a.ctime,UE UL a.ak,UE UL a.up,UF a.data,UG ea el ec] 149));clear aY;go_wp2_with fail;go_ret;rw[HQ.o];exact⟨rfl,kT.o _ rF.o⟩
    ·have HQ:=Ux (pE.o.trans (if_neg (by omega)));have q3:(a.kind==3)=false:=by simpa using h3
     clear h3;go_enter Tryz.func96,Tryz.ntmps96;go_wp2_with fail;refine HO.o.mono ?_;rintro e w1 ⟨rfl,av⟩;have fE:=vt.o.an av;have hbb:=ar cB.o av;have vr:=Ux fE;have jZ:=Ux hbb;obtain⟨cc,-,-⟩:=fE.facts;have pc2:=(hbb.cell (p:=⟨pf,3,none⟩) pz).trans (pc 3);clear av fE hbb;go_wp2_with fail;refine(HG.o _ jZ.o).mono ?_;rintro e w2 ⟨rfl,aY⟩;have pc3:=(aY.cell (p:=⟨pf,3,none⟩) (Nat.lt_of_lt_of_le pz jZ.o.size)).trans pc2;have F1:pf<w2.heap.size:=Nat.lt_of_lt_of_le (Nat.lt_of_lt_of_le pz jZ.o.size) aY.size;have aJ:=ao (ar jZ.o aY) (.cells #[UE UL a.no,UE UL a.dev,UE UL a.kind,UE UL m,UE UL a.uid,UE UL a.gid,UE UL a.mtime,UE UL now,UE UL a.ak,UE UL a.up,UF a.data,UG ea el ec] 149);have HS:=Ux (ey.o _ aJ);have bC:=Ux aJ;clear aY aJ pc pc2;go_wp2_with fail;refine HS.o.mono ?_;rintro e w5 ⟨rfl,R',ez,dw,gN,-⟩;have HR:=Ux (ag ez (ag dw gN));clear ez dw gN;go_wp2_with fail;go_ret;rw[HQ.o];exact⟨rfl,R',HR.o.1,(aS.aq bC.o).trans HR.o.2.1,HR.o.2.2⟩
end
end
section
open Go.RowKit
section
variable{w w':World}{pf:Nat}{R:Rf}{S:Fs}
theorem mN(h:aW w pf R S)(k:Int):∃ea el ec,aA w ea el ec (S.bG k).au∧∀w1,UA w w1→
  Calls Tryz.prog 134 #[UH (some ⟨pf,0,none⟩),UE UL k] w1 fun e w'=>e=.returned ((S.bG k).v ea el ec)∧UA w1 w':=by
 cases hg:S.get k with
 |none=>
  rw[gl hg];exact⟨none,0,0,aA.nil w,fun w1 hb=>mM (h.an hb) hg⟩
 |some a=>
  rw[bW hg];exact jM h hg
theorem LF(h:aW w pf R S){N:Nat}(hk:ay S N)(dir:Int)(s:ByteArray)(hs:s.size≤100000):∃dz ea el ec,aA w ea el ec dz.au∧(S.aX cw dir s=0→S.get dir=some dz)∧
  Calls Tryz.prog 178 #[UH (some ⟨pf,0,none⟩),UJ #[UE UL 0,UE UL 0],UE UL dir,UF s] w fun e w'=>e=.returned (UK #[dz.v ea el ec,UE UL (S.aX cw dir s)])∧UA w w':=by
 cases hg:S.get dir with
 |none=>
  have hp:S.aX cw dir s=5:=by unfold Fs.aX;rw[hg]
  have hq:=zV h dir s hg;rw[←hp] at hq;exact⟨dD,none,0,0,aA.nil w,(fun e=>absurd (hp.symm.trans e) (by decide)),hq⟩
 |some d=>
  obtain⟨ea,el,ec,hE,hP⟩:=zU h hk dir s hs d hg;by_cases hp:S.aX cw dir s=0
  ·refine⟨d,ea,el,ec,hE,(fun _=>rfl),hP.mono ?_⟩;rintro e w1 ⟨⟨h1,-⟩|⟨-,rfl⟩,hb⟩
   ·exact absurd hp h1
   ·exact⟨by rw[hp],hb⟩
  ·refine⟨dD,none,0,0,aA.nil w,(fun e=>absurd e hp),hP.mono ?_⟩;rintro e w1 ⟨⟨-,rfl⟩|⟨h1,-⟩,hb⟩
   ·exact⟨rfl,hb⟩
   ·exact absurd h1 hp
theorem Ec{S:Fs}{N:Nat}(hk:ay S N)(k:Int):((S.bG k).no==0)=(S.get k).isNone:=by
 cases hg:S.get k with
 |none=>rw[gl hg];rfl
 |some a=>
  rw[bW hg];obtain⟨-,h1,h2,-⟩:=hk.get hg;simp only[Option.isNone_some,beq_eq_false_iff_ne,ne_eq];omega
theorem Fl(h:aW w pf R S){N:Nat}(hk:ay S N)(hN:N≤100000)(no dir:Int)(s:ByteArray)(hs:s.size≤100000) :
  Calls Tryz.prog 137 #[UH (some ⟨pf,0,none⟩),UJ #[UE UL 0,UE UL 0],UE UL no,UE UL dir,UF s] w fun e w'=>e=.returned (UE UL (S.dV cw R.now no dir s).2)∧∃R',aW w' pf R' (S.dV cw R.now no dir s).1∧aS (R.F pf) (R'.F pf) w w'∧Rf.cY R R':=by
 have hkeep:∀w2,UA w w2→∃R',aW w2 pf R' S∧aS (R.F pf) (R'.F pf) w w2∧Rf.cY R R':=fun w2 hb=>⟨R,h.an hb,aS.aq hb,Rf.cY.refl R⟩;have kT:=Ux hkeep;have de:=(Below.refl _ w).alloc (aa _) (.cells #[UE UL 0,UE UL 0] 64);have cB:=Ux de;obtain⟨dz,da,dl,dc,hE,hdz,hP⟩:=LF (h.an de) hk dir s hs;obtain⟨na,nl,nc,PH,hG⟩:=mN h no;have hnz:=Ec hk no;have HP:=Ux hP;have HG:=Ux hG;have HE:=Ux hE;have HDl:=Ux hE.len;have HF:=Ux (show∀k,w.heap.size≤k→¬R.F pf k from fun k hk hf=>by have:=h.lt hf;omega);have HH:=Ux h;by_cases hpe:S.aX cw dir s=0
 ·have hgd:=hdz hpe;obtain⟨hdo,hdn,-,-⟩:=hk.get hgd
  cases hgn:S.get no with
  |none=>
   have HQ:=Ux (show S.dV cw R.now no dir s=(S,5) by unfold Fs.dV;rw[if_neg (by simpa using hpe),hgd,hgn]);rw[hgn] at hnz;have Mg:((S.bG no).no==0)=true:=hnz;rw[hpe] at HP;unfold An.v at HP HG;generalize S.bG no=nd at HG Mg PH;clear h hk hkeep de hE hdz hP hG hnz hgd hdo hdn hgn hpe PH;go_enter Tryz.func137,Tryz.ntmps137;go_wp2_with fail;refine HP.o.mono ?_;rintro e w1 ⟨rfl,av⟩;have hbb:=ao (ar cB.o av) (.cells #[UE UL dz.no,UE UL dz.dev,UE UL dz.kind,UE UL dz.mode,UE UL dz.uid,UE UL dz.gid,UE UL dz.mtime,UE UL dz.ctime,UE UL dz.ak,UE UL dz.up,UF dz.data,UG da dl dc] 149);have jZ:=Ux hbb;clear av hbb;go_wp2_with fail;refine(HG.o _ jZ.o).mono ?_;rintro e w2 ⟨rfl,aY⟩;have ei:=Ux (ao (ar jZ.o aY) (.cells #[UE UL nd.no,UE UL nd.dev,UE UL nd.kind,UE UL nd.mode,UE UL nd.uid,UE UL nd.gid,UE UL nd.mtime,UE UL nd.ctime,UE UL nd.ak,UE UL nd.up,UF nd.data,UG na nl nc] 149));clear aY;go_wp2_with fail;go_ret;rw[HQ.o];exact⟨rfl,kT.o _ ei.o⟩
  |some n=>
   rw[bW hgn] at hnz hG HG PH;rw[hgn] at hnz;have Mg:(n.no==0)=false:=hnz;have hnn:=bV hgn;have hel:dl≤100000:=by have:=hdo.lR;have:=HDl.o;omega
   have pE:=Ux (show S.dV cw R.now no dir s=if n.kind=1 then(S,4) else if aw dz.au s≠0 then(S,7) else if n.dev≠dz.dev then(S,11) else if 1000≤n.ak then(S,18) else((S.set {n with ak:=n.ak+1,ctime:=R.now}).aE R.now dir (aV dz.au s no),0) by unfold Fs.dV;rw[if_neg (by simpa using hpe),hgd,hgn]);have ey:=Ux (fun w1 (hb:UA w w1)=>kA (h.an hb) hk.nums (a:={n with ak:=n.ak+1,ctime:=R.now}) (PH.an hb) (b:=n) (by show S.get n.no=some n;rw[hnn];exact hgn));have vn:=Ux (hk.nums.set {n with ak:=n.ak+1,ctime:=R.now});have HGd:=Ux (show n.kind≠1→(S.set {n with ak:=n.ak+1,ctime:=R.now}).get dir=some dz from fun gv=>by
    rw[fC (b:=n) (by show S.get n.no=some n;rw[hnn];exact hgn),if_neg]
    ·exact hgd
    ·intro e;have e2:dir=no:=e.trans hnn;rw[e2,hgn] at hgd;injection hgd with hgd;subst hgd;have h5:=hpe;unfold Fs.aX at h5;rw[e2,hgn] at h5;simp only at h5;rw[if_pos gv] at h5
     cases h5)
   have hlk:-9223372036854775808≤n.ak∧n.ak≤1000:=by
    have:=(hk.get hgn).1.ak;omega
   obtain⟨pc,-,pz⟩:=h.bD.facts;rw[hpe] at HP;unfold An.v at HP HG ey;generalize hnow:R.now=now at pE ey vn HGd pc;have yN:=Ux hnow;clear h hk hkeep de hE hdz hP hG hnz hgd hdo hdn hgn hpe PH hnn hnow;go_enter Tryz.func137,Tryz.ntmps137;go_wp2_with fail;refine HP.o.mono ?_;rintro e w1 ⟨rfl,av⟩;have hbb:=ao (ar cB.o av) (.cells #[UE UL dz.no,UE UL dz.dev,UE UL dz.kind,UE UL dz.mode,UE UL dz.uid,UE UL dz.gid,UE UL dz.mtime,UE UL dz.ctime,UE UL dz.ak,UE UL dz.up,UF dz.data,UG da dl dc] 149);have xT:=ax.new w1 #[UE UL dz.no,UE UL dz.dev,UE UL dz.kind,UE UL dz.mode,UE UL dz.uid,UE UL dz.gid,UE UL dz.mtime,UE UL dz.ctime,UE UL dz.ak,UE UL dz.up,UF dz.data,UG da dl dc] 149;have p':=(HE.o.an av).an ((Below.refl _ w1).alloc (aa _) (.cells #[UE UL dz.no,UE UL dz.dev,UE UL dz.kind,UE UL dz.mode,UE UL dz.uid,UE UL dz.gid,UE UL dz.mtime,UE UL dz.ctime,UE UL dz.ak,UE UL dz.up,UF dz.data,UG da dl dc] 149));have MP:w.heap.size≤w1.heap.size:=(ar cB.o av).size;go_upto_region 2 with fail;generalize w1.alloc _=X at hbb xT p'⊢;generalize w1.heap.size=D at xT MP⊢;have jZ:=Ux hbb;have HX:=Ux (ag xT p');clear av hbb xT p';go_wp2_with fail;refine(HG.o _ jZ.o).mono ?_;rintro e w2 ⟨rfl,aY⟩;have iG:=(HX.o.1.an aY).bI (.cells #[UE UL n.no,UE UL n.dev,UE UL n.kind,UE UL n.mode,UE UL n.uid,UE UL n.gid,UE UL n.mtime,UE UL n.ctime,UE UL n.ak,UE UL n.up,UF n.data,UG na nl nc] 149);have mu:=(HX.o.2.an aY).an ((Below.refl _ w2).alloc (aa _) (.cells #[UE UL n.no,UE UL n.dev,UE UL n.kind,UE UL n.mode,UE UL n.uid,UE UL n.gid,UE UL n.mtime,UE UL n.ctime,UE UL n.ak,UE UL n.up,UF n.data,UG na nl nc] 149));have cl:=ao (ar jZ.o aY) (.cells #[UE UL n.no,UE UL n.dev,UE UL n.kind,UE UL n.mode,UE UL n.uid,UE UL n.gid,UE UL n.mtime,UE UL n.ctime,UE UL n.ak,UE UL n.up,UF n.data,UG na nl nc] 149);have oV:=ax.new w2 #[UE UL n.no,UE UL n.dev,UE UL n.kind,UE UL n.mode,UE UL n.uid,UE UL n.gid,UE UL n.mtime,UE UL n.ctime,UE UL n.ak,UE UL n.up,UF n.data,UG na nl nc] 149;have hN0:w.heap.size≤w2.heap.size:=(ar jZ.o aY).size;have hDN:D<w2.heap.size:=Nat.lt_of_lt_of_le HX.o.1.lt aY.size;go_upto_region 3 with fail;generalize w2.alloc _=Z at iG mu cl oV⊢;generalize w2.heap.size=M at oV hN0 hDN⊢;have HZ:=Ux (ag iG (ag mu (ag cl oV)));have Qt:=Ux (pT dz.au da dl dc s Z mu);have rX:=Ux cl;obtain⟨dcc,dcf,dcz⟩:=iG.facts;obtain⟨ncc,ncf,ncz⟩:=oV.facts;clear aY iG mu cl oV;by_cases h1:n.kind=1
   ·have HQ:=Ux (pE.o.trans (if_pos h1));have q1:(n.kind==1)=true:=by simpa using h1
    clear h1;go_wp2_with fail;go_ret;rw[HQ.o];exact⟨rfl,kT.o _ rX.o⟩
   ·have rE:=Ux (pE.o.trans (if_neg h1));have q1:(n.kind==1)=false:=by simpa using h1
    have HGd2:=Ux (HGd.o h1);clear h1;go_wp2_with fail;refine Qt.o.mono ?_;rintro e w4 ⟨rfl,dM⟩;obtain⟨iG,mu,cl,oV⟩:=HZ.o;have qR:=iG.an dM;have D4:=oV.an dM;have C':=mu.an dM;have hbw:=ar cl dM;have yI:=Ux (ag qR (ag D4 (ag C' hbw)));clear dcc dcf dcz ncc ncf ncz;obtain⟨dcc,dcf,dcz⟩:=qR.facts;obtain⟨ncc,ncf,ncz⟩:=D4.facts;clear dM iG mu cl oV qR D4 C' hbw;by_cases h2:aw dz.au s=0
    ·have vl:=Ux (rE.o.trans (if_neg (by simpa using h2)));have q2:(aw dz.au s != 0)=false:=by simpa using h2
     clear h2;by_cases h3:n.dev=dz.dev
     ·have GX:=Ux (vl.o.trans (if_neg (by simpa using h3)));have q3:(n.dev != dz.dev)=false:=by simpa using h3
      clear h3;by_cases h4:1000≤n.ak
      ·have HQ:=Ux (GX.o.trans (if_pos h4));go_wp2_with fail;go_ret;rw[HQ.o];exact⟨rfl,kT.o _ yI.o.2.2.2⟩
      ·have HQ:=Ux (GX.o.trans (if_neg h4));obtain⟨qR,D4,C',hbw⟩:=yI.o;have pc3:=(hbw.cell (p:=⟨pf,3,none⟩) pz).trans (pc 3);have F1:¬pf=M:=by omega
       have Me:¬M=pf:=by omega
       have NY:¬D=M:=by omega
       have NX:¬M=D:=by omega
       have hm:=((Mod.refl (fun k=>k=M) w4).setCell (a:=⟨M,8,none⟩) (.inl rfl) (UE UL (n.ak+1))).setCell (a:=⟨M,7,none⟩) (.inl rfl) (UE UL now);have St:=(D4.set 8 (UE UL (n.ak+1))).set 7 (UE UL now);have CQ:=qR.mod hm (by omega);have MM:=C'.gw (fun b cur hc=>hm.block b (Array.getElem?_eq_some_iff.1 hc).1 (fun e=>by
        subst e;unfold ax at D4;rw[D4] at hc;injection hc with hc;injection hc with _ hc;revert hc;decide)) hm.size
       have eT:=hm.below (B:=w.heap.size) (fun k hk=>by omega) hbw.size;have HY:=Ux (ag CQ (ag St (ag MM (hbw.trans eT))));clear qR D4 C' hbw hm St CQ MM eT;go_upto_region 17 with fail;generalize World.setCell _ _ _=Y at HY⊢;obtain⟨CQ,St,MM,eT⟩:=HY.o;have HS:=Ux (ey.o Y eT);have nk:=Ux eT;have hhY:=HH.o.an eT;clear dcc dcf dcz ncc ncf ncz pc3;obtain⟨ncc,ncf,ncz⟩:=St.facts;clear St eT;go_wp2_with fail;refine HS.o.mono ?_;rintro e w6 ⟨rfl,R6,N4,xZ,Th,-⟩;have hd6:=CQ.mod xZ.mod (HF.o D MP);have Oc:=MM.rf hhY xZ;have Ny:=Ux (ag N4 (ag ((aS.aq nk.o).trans xZ) Th));obtain⟨dcc,dcf,dcz⟩:=hd6.facts;have Kx:=Ux (zT dz.au da dl dc s no w6 Oc (by omega));clear N4 xZ Th hd6 Oc CQ MM hhY ncc ncf ncz;go_wp2_with fail;refine Kx.o.mono ?_;rintro e w7 ⟨⟨a7,n7,c7,rfl,hE7⟩,lQ⟩;have He:=Ux (sF (Ny.o.1.an lQ) vn.o dir HGd2.o hE7);rw[Ny.o.2.2.now,yN.o] at He;have pN:=Ux lQ;clear hE7 lQ dcc dcf dcz;go_wp2_with fail;refine He.o.mono ?_;rintro e w8 ⟨rfl,R8,hR8,C2,hL8⟩;have HR8:=Ux (ag hR8 (ag ((Ny.o.2.1.trans (aS.aq pN.o)).trans C2) (Ny.o.2.2.trans hL8)));clear hR8 C2 hL8;go_wp2_with fail;go_ret;rw[HQ.o];exact⟨rfl,R8,HR8.o⟩
     ·have HQ:=Ux (vl.o.trans (if_pos (by simpa using h3)));have q3:(n.dev != dz.dev)=true:=by simpa using h3
      clear h3;go_wp2_with fail;go_ret;rw[HQ.o];exact⟨rfl,kT.o _ yI.o.2.2.2⟩
    ·have HQ:=Ux (rE.o.trans (if_pos (by simpa using h2)));have q2:(aw dz.au s != 0)=true:=by simpa using h2
     clear h2;go_wp2_with fail;go_ret;rw[HQ.o];exact⟨rfl,kT.o _ yI.o.2.2.2⟩
 ·have HQ:=Ux (show S.dV cw R.now no dir s=(S,S.aX cw dir s) by unfold Fs.dV;rw[if_pos hpe]);generalize S.aX cw dir s=pe at HQ HP hpe;have hpb:(pe != 0)=true:=by simpa using hpe
  unfold An.v at HP HG;generalize S.bG no=nd at HG PH;clear h hk hkeep de hE hdz hP hG hnz hpe PH;go_enter Tryz.func137,Tryz.ntmps137;go_wp2_with fail;refine HP.o.mono ?_;rintro e w1 ⟨rfl,av⟩;have hbb:=ao (ar cB.o av) (.cells #[UE UL dz.no,UE UL dz.dev,UE UL dz.kind,UE UL dz.mode,UE UL dz.uid,UE UL dz.gid,UE UL dz.mtime,UE UL dz.ctime,UE UL dz.ak,UE UL dz.up,UF dz.data,UG da dl dc] 149);have jZ:=Ux hbb;clear av hbb;go_wp2_with fail;refine(HG.o _ jZ.o).mono ?_;rintro e w2 ⟨rfl,aY⟩;have ei:=Ux (ao (ar jZ.o aY) (.cells #[UE UL nd.no,UE UL nd.dev,UE UL nd.kind,UE UL nd.mode,UE UL nd.uid,UE UL nd.gid,UE UL nd.mtime,UE UL nd.ctime,UE UL nd.ak,UE UL nd.up,UF nd.data,UG na nl nc] 149));clear aY;go_wp2_with fail;go_ret;rw[HQ.o];exact⟨rfl,kT.o _ ei.o⟩
end
end
section
open Go.RowKit
def lenV:Value→Nat | .slice _ n _=>n|_=>0
section
variable{w w':World}{pf:Nat}{R:Rf}{S:Fs}
end
end
section
open Go.RowKit
structure OL(p:List UInt8):Prop where
 ne:p≠[]
 n1:p≠[46]
 n2:p≠[46,46]
 no:∀x∈p,x≠47
 chk:cH (str p)=0
def pthL(ns:List (List UInt8)):List UInt8:=47::Lib.join ns [47]
def pth(ns:List (List UInt8)):ByteArray:=str (pthL ns)
def OrdR(a b:List (List UInt8)):Prop:=a≠b∧∀p x y,a=p++[x]→b=p++[y]→Op.bytesLess x y=true
structure OrdSt(S:Fs)(vis:List (List (List UInt8)×An))(td:List (List (List UInt8)×Int)):Prop where
 vgood:∀y∈vis,∀p∈y.1,OL p
 tgood:∀y∈td,∀p∈y.1,OL p
 par:∀(i:Nat) (y:List (List UInt8)×An),vis[i]?=some y→∀p x,y.1=p++[x]→∃(k:Nat) (z:List (List UInt8)×An),k<i∧vis[k]?=some z∧z.1=p∧z.2.kind=1
 tpar:∀y∈td,∀p x,y.1=p++[x]→∃z∈vis,z.1=p∧z.2.kind=1
 ord:(vis.map (·.1)++td.map (·.1)).Pairwise OrdR
 get:∀y∈vis,S.get y.2.no=some y.2
def kidsN(ns:List (List UInt8))(n:An):List (List (List UInt8)×Int):=n.au.map fun e=>(ns++[e.name.data.toList],e.no)
end
section
open Go.RowKit
inductive Way (S:Fs):List (List UInt8)→Int→Prop
 |top:Way S [] 1
 |down {ns:List (List UInt8)} {d:Int} {a:An} {e:En} (h:Way S ns d) (hg:S.get d=some a) (he:e∈a.au):Way S (ns++[e.name.data.toList]) (S.aB e.no)
structure Grown(S:Fs)(N:Nat):Prop where
 ok:ay S N
 pl:Pl S
 tr:Tr S
 nm:Nm S
 wy:Wy S
section
variable{S:Fs}{N:Nat}
theorem sW(S:Fs)(k:Int):S.aB k=k∨∃(i:Nat) (hi:i<S.ds.length),S.ds[i].aB=k∧k≠0∧S.aB k=S.ds[i].root:=by
 unfold Fs.aB
 split
 ·rename_i hk
  split
  ·rename_i d hd;obtain⟨i,hi,hid⟩:=List.mem_iff_getElem.1 (List.mem_of_find?_eq_some hd);subst hid;refine .inr ⟨i,hi,by simpa using List.find?_some hd,by omega,rfl⟩
  ·exact .inl rfl
 ·exact .inl rfl
theorem mA{l:List En}(h:fL l){e:En}(he:e∈l):aw l e.name=e.no:=by
 induction l with
 |nil=>cases he
 |cons y l ih=>
  unfold fL at h;rw[List.pairwise_cons] at h;unfold aw;rw[List.find?_cons];by_cases hy:y.name=e.name
  ·rw[show decide (y.name=e.name)=true by simpa using hy];rcases List.mem_cons.1 he with rfl|he
   ·rfl
   ·have:=h.1 e he;rw[hy,eE] at this
    cases this
  ·rw[show decide (y.name=e.name)=false by simpa using hy];rcases List.mem_cons.1 he with rfl|he
   ·exact absurd rfl hy
   ·exact ih h.2 he
end
end
section
open Go.RowKit
def dQ:ByteArray:=ByteArray.mk #[46,116,114,97,115,104,105,110,102,111]
def Fs.nJ(S:Fs)(d:Bool)(c:Cr)(n:ByteArray):List Int→Bool×Int
 | []=>(false,0)
 |x::l=>if(S.aQ d c x n).2=0 then(true,0) else if(S.aQ d c x n).2≠5 then(false,(S.aQ d c x n).2) else S.nJ d c n l
def Sy.EJ(Y:Sy)(c:Cr)(info:Int)(text n:ByteArray):Sy×Int×Int:=Y.op (fun S now=>S.file c now info (n++dQ) 384 text)
def Cn.three(x:Cn):List Int:=[x.files,x.jC,x.out]
def Sy.Jc(Y:Sy)(c:Cr)(x:Cn)(text:ByteArray):List ByteArray→Sy×ByteArray×Int
 | []=>(Y,ByteArray.empty,7)
 |n::l=>
  if(Y.fs.nJ Y.dead c n x.three).2≠0 then(Y,ByteArray.empty,(Y.fs.nJ Y.dead c n x.three).2)
  else if(Y.fs.nJ Y.dead c n x.three).1=true then Y.Jc c x text l
  else if(Y.EJ c x.info text n).2.2=7 then(Y.EJ c x.info text n).1.Jc c x text l
  else if(Y.EJ c x.info text n).2.2≠0 then((Y.EJ c x.info text n).1,ByteArray.empty,(Y.EJ c x.info text n).2.2)
  else((Y.EJ c x.info text n).1,n,0)
def O0(base:ByteArray):List ByteArray:=(List.range 1000).map fun k=>I9 base ((k:Nat)+1)
def Sy.RU(Y:Sy)(c:Cr)(x:Cn)(base text:ByteArray):Sy×ByteArray×Int:=Y.Jc c x text (O0 base)
def Fs.Tu(S:Fs)(d:Bool)(c:Cr)(dirs:List Int):List ByteArray→ByteArray×Int
 | []=>(ByteArray.empty,7)
 |n::l=>if(S.nJ d c n dirs).2≠0 then(ByteArray.empty,(S.nJ d c n dirs).2) else if(S.nJ d c n dirs).1=true then S.Tu d c dirs l else(n,0)
structure cU(Y:Sy):Prop where
 cC:Y.cC=[]
 dead:Y.dead=false
theorem cU.op{Y:Sy}(h:cU Y)(g:Fs→Int→Fs×Int×Int):(Y.op g).2=(g Y.fs Y.now).2∧(Y.op g).1.fs=(g Y.fs Y.now).1∧cU (Y.op g).1∧(Y.op g).1.now=Y.now:=by
 have hc:Y.change=({Y with count:=Y.count+1},0):=by
  unfold Sy.change;rw[if_neg (by simp[h.dead]),h.cC];rfl
 unfold Sy.op;rw[if_neg (by rw[hc];simp),hc];exact⟨rfl,rfl,⟨h.cC,h.dead⟩,rfl⟩
theorem GA{S:Fs}{c:Cr}{now dir:Int}{s:ByteArray}{a:An}(h:(S.bT c now dir s a).2.2≠0):(S.bT c now dir s a).1=S:=by
 revert h;unfold Fs.bT
 split
 ·intro _;rfl
 ·split
  ·intro _;rfl
  ·split
   ·intro _;rfl
   ·dsimp only
    split
    ·intro _;rfl
    ·intro h;exact absurd rfl h
theorem pg{l:List En}{s:ByteArray}(h:¬∃e∈l,e.name=s):aw l s=0:=by
 unfold aw;rw[List.find?_eq_none.2 (fun x hx=>by simpa using fun he=>h ⟨x,hx,he⟩)]
theorem jR{l:List En}(h:fL l)(s t:ByteArray)(no:Int)(hst:t≠s):aw (aV l s no) t=aw l t:=by
 have hr:=l5 h s no;by_cases hx:∃e∈l,e.name=t
 ·obtain⟨e,he,rfl⟩:=hx;rw[mA h he];refine mA hr ?_;unfold aV;rw[List.mem_append,List.mem_cons]
  cases hc:gA e.name s with
  |true=>exact .inl (List.mem_filter.2 ⟨he,hc⟩)
  |false=>
   cases hd:gA s e.name with
   |true=>exact .inr (.inr (List.mem_filter.2 ⟨he,hd⟩))
   |false=>exact absurd (jF hd hc).symm hst
 ·rw[pg hx];refine pg ?_;rintro⟨e,he,hn⟩;unfold aV at he;rw[List.mem_append,List.mem_cons] at he;rcases he with he|rfl|he
  ·exact hx ⟨e,(List.mem_filter.1 he).1,hn⟩
  ·exact hst hn.symm
  ·exact hx ⟨e,(List.mem_filter.1 he).1,hn⟩
theorem gC{l:List En}(h:fL l)(s:ByteArray)(no:Int):aw (aV l s no) s=no:=by
 have:=mA (l5 h s no) (e:=⟨s,no⟩) (by unfold aV;simp);exact this
theorem LY:∀k:Fin 1024,(bits .and .i64 (bits .and .i64 (k.val:Int) 3) 7==bits .and .i64 3 7)=true→(bits .and .i64 (bits .and .i64 (k.val:Int) 1) 7==bits .and .i64 1 7)=true:=by decide +kernel
theorem Jj{a:An}{c:Cr}(hm:0≤a.mode∧a.mode≤1023)(h:a.may c 3=true):a.may c 1=true:=by
 unfold An.may qJ at h⊢
 split
 ·rfl
 ·rename_i h0;rw[if_neg h0] at h;generalize hx:(if c.u=a.uid then a.mode / 64 else if c.g=a.gid then a.mode / 8 else a.mode)=x at h⊢;have hb:0≤x∧x≤1023:=by
   subst hx
   split
   ·omega
   ·split<;>omega
  have:=LY ⟨x.toNat,by omega⟩;have hc:((x.toNat:Nat):Int)=x:=by omega
  simp only[hc] at this;exact this h
theorem LZ{a:An}{c:Cr}(hm:a.mode=384)(hu:a.uid=c.u):a.may c 4=true:=by
 unfold An.may qJ
 split
 ·rfl
 ·rw[if_pos hu.symm,hm];decide
theorem vX{S:Fs}{N:Nat}(h:dE S N){k:Int}{a:An}(hg:S.get k=some a)(hk:a.kind≠1):S.aB k=k:=by
 rcases sW S k with h1|⟨i,hi,h2,h3,-⟩
 ·exact h1
 ·by_cases h0:i=0
  ·subst h0;have:=h.tr.zero S.ds[0] (by simp);rw[h2] at this;exact absurd this h3
  ·obtain⟨b,hb,av,-⟩:=h.pl.aB i hi (by omega);rw[h2,hg] at hb;injection hb with hb;subst hb;exact absurd av hk
theorem wJ{S:Fs}{N:Nat}(hk:dE S N){c:Cr}{now dir:Int}{s t:ByteArray}(he:(S.file c now dir s 384 t).2.2=0) :
  ∃d no,S.get dir=some d∧d.kind=1∧d.may c 1=true∧aw d.au s=0∧fL d.au∧
   (∃d',(S.file c now dir s 384 t).1.get dir=some d'∧d'.au=aV d.au s no)∧
   (∀k,k≠dir→∀a,S.get k=some a→(S.file c now dir s 384 t).1.get k=some a)∧
   (S.file c now dir s 384 t).1.aQ false c dir s=(no,0)∧(S.file c now dir s 384 t).1.read c no=(t,0)∧
   (∀k,(∀a,S.get k≠some a)→k≠no→(S.file c now dir s 384 t).1.get k=none)∧(S.file c now dir s 384 t).1.aI no=[]∧no≠0:=by
 have hF:=hk.file c now dir s 384 t;revert he hF;unfold Fs.file;rw[if_neg (by omega)]
 split
 ·intro he;exact absurd (show(3:Int)=0 from he) (by decide)
 ·unfold Fs.bT
  split
  ·intro he;exact absurd he (by assumption)
  ·rename_i hp;have Mf:S.aX c dir s=0:=by simpa using hp
   cases hd:S.get dir with
   |none=>intro he;exact absurd (show(5:Int)=0 from he) (by decide)
   |some d=>
    have hao:=(hk.ok.get hd).1;obtain⟨d1,xT,hdk,-⟩:=cD Mf;obtain rfl:d=d1:=by rw[hd] at xT;exact Option.some.inj xT
    have p7:d.may c 3=true:=by
     unfold Fs.aX at Mf;rw[hd] at Mf;dsimp only at Mf;rw[if_neg (by simpa using hdk)] at Mf
     split at Mf
     ·rename_i h;exact absurd Mf h
     ·split at Mf
      ·exact absurd Mf (by decide)
      ·simpa using ‹¬d.may c 3=false›
    dsimp only
    split
    ·intro he;exact absurd (show(7:Int)=0 from he) (by decide)
    ·rename_i hf;have CP:aw d.au s=0:=by simpa using hf
     generalize hna:({dD with kind:=2,mode:=384,data:=t,dev:=d.dev,uid:=c.u,gid:=c.g,mtime:=now,ctime:=now,ak:=1}:An)=na
     split
     ·intro he;exact absurd he (by assumption)
     ·rename_i hme;intro _ hF;have hdno:=bV hd;have hgd:=AU hk.ok na hd;have hlow:=jv hk.ok.nums hd;obtain⟨v,hv⟩:∃v,S.make na=((S.aP na.dev v).add na,S.last+1,0)∧eU (S.aP na.dev v)∧(S.aP na.dev v).last=S.last∧(S.aP na.dev v).ns=S.ns:=by
       revert hme;unfold Fs.make
       split
       ·intro h;exact absurd (show(1:Int)≠0 by decide) h
       ·split
        ·intro h;exact absurd (show(1:Int)≠0 by decide) h
        ·rename_i v hv;dsimp only
         split
         ·intro _;exact⟨_,rfl,(hk.ok.aP (u:={v with b:=v.b+cF na.kind na.data.size,n:=v.n+1}) hv rfl).nums,rfl,rfl⟩
         ·rename_i h1;intro h2;exact absurd (by simpa using h2) h1
      obtain⟨hmk,hnu,hla,hns⟩:=hv;have hget:∀k,(S.make na).1.get k=if k=S.last+1 then some {na with no:=S.last+1} else S.get k:=fun k=>by
       rw[hmk];show((S.aP na.dev v).add na).get k=_;rw[gZ hnu,hla];unfold Fs.get;rw[hns]
      have xS:(S.make na).2.1=S.last+1:=by rw[hmk]
      rw[xS] at hF⊢;unfold Fs.aE at hF⊢;rw[hgd] at hF⊢;dsimp only at hF⊢;have hset:∀k,((S.make na).1.set {d with au:=aV d.au s (S.last+1),mtime:=now,ctime:=now}).get k=if k=d.no then some {d with au:=aV d.au s (S.last+1),mtime:=now,ctime:=now} else(S.make na).1.get k:=fun k=>fC (b:=d) (by dsimp only;rw[hdno];exact hgd) k;have Ss:S.last+1≠0:=by have:=hk.ok.l0;omega
      have hndir:S.last+1≠dir:=by omega
      have hgn:((S.make na).1.set {d with au:=aV d.au s (S.last+1),mtime:=now,ctime:=now}).get (S.last+1)=some {na with no:=S.last+1}:=by
       rw[hset,if_neg (by omega),hget,if_pos rfl]
      have hgd':((S.make na).1.set {d with au:=aV d.au s (S.last+1),mtime:=now,ctime:=now}).get dir=some {d with au:=aV d.au s (S.last+1),mtime:=now,ctime:=now}:=by
       rw[hset,if_pos hdno.symm]
      have hov:=vX hF hgn (by rw[←hna];show(2:Int)≠1;decide);refine⟨d,S.last+1,rfl,hdk,Jj hao.mode p7,CP,hao.dB,⟨_,hgd',rfl⟩,?_,?_,?_,?_,?_,Ss⟩
      ·intro k gv a ha;have:=jv hk.ok.nums ha;rw[hset,if_neg (by omega),hget,if_neg (by omega),ha]
      ·have ho:((S.make na).1.set {d with au:=aV d.au s (S.last+1),mtime:=now,ctime:=now}).cV c dir 1 1=0:=by
        unfold Fs.cV;rw[hgd'];dsimp only;rw[if_pos hdk];have:({d with au:=aV d.au s (S.last+1),mtime:=now,ctime:=now}:An).may c 1=true:=Jj hao.mode p7;rw[if_pos this]
       have hen:((S.make na).1.set {d with au:=aV d.au s (S.last+1),mtime:=now,ctime:=now}).aI dir=aV d.au s (S.last+1):=by
        unfold Fs.aI;rw[hgd']
       unfold Fs.aQ;rw[if_neg (by decide),if_neg (by simpa using ho),hen,gC hao.dB,if_neg Ss,hov]
      ·have ho:((S.make na).1.set {d with au:=aV d.au s (S.last+1),mtime:=now,ctime:=now}).cV c (S.last+1) 2 4=0:=by
        unfold Fs.cV;rw[hgn];dsimp only;rw[if_pos (by rw[←hna])];have:({na with no:=S.last+1}:An).may c 4=true:=LZ (by rw[←hna]) (by rw[←hna]);rw[if_pos this]
       unfold Fs.read;rw[if_pos ho,hgn,←hna]
      ·intro k gv gM;rw[hset,if_neg (fun e=>gv d (by rw[e,hdno];exact hd)),hget,if_neg gM]
       cases h:S.get k with
       |none=>rfl
       |some a=>exact absurd h (gv a)
      ·unfold Fs.aI;rw[hgn,←hna];rfl
end
section
open Go.RowKit
structure Ln where
 size:Int
 time:Int
 name:ByteArray
def Fs.jj(S:Fs)(N:Nat)(c:Cr)(x:Cn)(y:En):Option Ln:=
 if(S.bG y.no).kind=1∧(S.aQ false c x.info (y.name++dQ)).2=0∧(S.iP N false c x.files y.name).2=0 then some ⟨(S.iP N false c x.files y.name).1,(S.bG (S.aQ false c x.info (y.name++dQ)).1).mtime,y.name⟩ else none
def Fs.b9(S:Fs)(N:Nat)(d:Bool)(c:Cr)(x:Cn):List Ln×Int:=
 if(S.cE d c x.files).2≠0 then([],(S.cE d c x.files).2) else((S.cE d c x.files).1.filterMap (S.jj N c x),0)
end
section
open Go.RowKit
theorem l8{E SE:TypeId}{sz by_:Nat}{z:Value}(hs:Tryz.prog.underlying SE=some (.slice E))(hinf:(Tryz.prog.info? E).map (fun i=>(i.zero,i.size,i.bytes))=some (some z,sz,by_))(hz:z.cells.size=sz)(hsz:0<sz)
  {w:World} {base n:Nat} {v:Value} {xs:List Value} (h:w.ownsRow base E sz v n xs) (cs:List Value) (hl:cs.length=sz) (h1:∀u∈cs,u.oneCell'=true) (hn:n≤1000000) (hby:by_≤1000) (hb:base≤w.heap.size) :
  ∃g cap W,(Builtin.append_ #[SE,SE] SE #[v,.slice (some ⟨w.heap.size,0,none⟩) 1 1]).run Tryz.prog (w.alloc (.cells cs.toArray E))=.ok (.slice (some ⟨g,0,none⟩) (n+1) cap) W∧
   W.ownsRow base E sz (.slice (some ⟨g,0,none⟩) (n+1) cap) (n+1) (xs++cs)∧Mod (fun k=>v.ownBlock=some k) w W∧(v.ownBlock=some g∨w.heap.size<g):=by
 obtain⟨i0,hi,kp,fj,fo⟩:=info_parts hinf;have ho:=World.ownsRow.alloc h (.cells cs.toArray E);have hm:(n+1)*by_≤(1000000+1)*1000:=Nat.mul_le_mul (by omega) hby;obtain⟨g,cap,W,h1,h2,h3,h4⟩:=eX SE hs hi kp fj fo hz hsz ho ⟨w.heap.size,0,none⟩ 1 1 cs (by omega) (World.news_of_block (ax.new w cs.toArray E)) h1 (by omega) (by unfold maxLen;omega) (by omega) (by rw[World.size_alloc];omega);exact⟨g,cap,W,h1,h2,((Mod.refl (fun j=>v.ownBlock=some j) w).alloc _).trans h3,h4.imp id (fun h=>by rw[h,World.size_alloc];omega)⟩
end
section
open Go.RowKit
theorem fi(u g:Int)(t:ByteArray)(w:World) :
  Calls Tryz.prog 13 #[UJ #[UE UL u,UE UL g,UF t]] w fun e w'=>e=.returned (UJ #[UE UL u,UE UL g])∧UA w w':=by
 go_enter Tryz.func13,Tryz.ntmps13;go_wp2_with fail
 go_returns
 exact⟨rfl,by go_grown⟩
section
variable{w w':World}{pw:Nat}{R:Rp}{S:Fs}
theorem RA(h:bB w pw R S)(k:Int):∃ea el ec b,∀w1,UA w w1→
  Calls Tryz.prog 69 #[UH (some ⟨R.pt,0,none⟩),UE UL k] w1 fun e w'=>e=.returned (UK #[(S.bG k).v ea el ec,.bool b])∧UA w1 w':=by
 obtain⟨a,ea,el,ec,b,-,-,hg,hc⟩:=Ic h k;have:S.bG k=a:=by
  rcases hg with⟨h1,-⟩|⟨h1,h2,-⟩
  ·exact bW h1
  ·rw[gl h1,h2]
 rw[this];exact⟨ea,el,ec,b,hc⟩
theorem Fw(h:bB w pw R S){N:Nat}(hk:ay S N)(hN:N≤999999)(c:Cr)(dir:Int)(n:ByteArray) :
  Calls Tryz.prog 32 #[UH (some ⟨pw,0,none⟩),UJ #[UE UL c.u,UE UL c.g],UE UL dir,UF n] w fun e w'=>e=.returned (UK #[UE UL (S.aQ false c dir n).1,UE UL (S.aQ false c dir n).2])∧UA w w':=by
 have HO:=Ux (fun w1 (av:UA w w1)=>sX (h.an av) hk c dir 1 1);have pL:=Ux (fun w1 (av:UA w w1) k=>jB (h.an av) hk.d1 k);have HK:=Ux hk;have HR:=Ux (show S.aQ false c dir n=if S.cV c dir 1 1≠0 then(0,S.cV c dir 1 1) else if aw (S.aI dir) n=0 then(0,5) else(S.aB (aw (S.aI dir) n),0) by unfold Fs.aQ;rw[if_neg (by decide)]);generalize S.aQ false c dir n=rd at HR⊢;have hbc:=ao (UB w) (.cells #[UE UL c.u,UE UL c.g] 64);clear h hk;go_enter Tryz.func32,Tryz.ntmps32;go_wp2_with fail;refine(HO.o _ hbc).mono ?_;rintro e w1 ⟨⟨h0,rfl⟩|⟨h0,d,ea,el,ec,hg,rfl,he⟩,av⟩
 ·have HB:=Ux (ar hbc av);have HE:=Ux (HR.o.trans (if_pos h0));have MW:(S.cV c dir 1 1 != 0)=true:=by simpa using h0
  generalize S.cV c dir 1 1=oe at HE MW⊢;unfold An.v dD;clear h0 av hbc;go_wp2_with fail;go_ret2;rw[HE.o];exact⟨rfl,ao HB.o _⟩
 ·have aY:=ar hbc av;have hen:S.aI dir=d.au:=by
   unfold Fs.aI;rw[hg]
  have HE:=Ux (show rd=if aw d.au n=0 then(0,5) else(S.aB (aw d.au n),0) by rw[HR.o,if_neg (by simpa using h0),hen]);have hfew:el≤1000000:=by
   rw[←he.len];exact ae (HK.o.get hg).1.lR (by omega)
  have HF:=Ux (fun w2 (aY:UA w1 w2)=>gO d.au ea el ec n w2 ((he.an av).an aY) (HK.o.get hg).1.dB hfew);obtain⟨hX,aJ⟩:=Uz w1 #[UE UL d.no,UE UL d.dev,UE UL d.kind,UE UL d.mode,UE UL d.uid,UE UL d.gid,UE UL d.mtime,UE UL d.ctime,UE UL d.ak,UE UL d.up,UF d.data,UG ea el ec] 149;have ei:=Ux aY;unfold An.v;clear h0 av hbc aY hen he hfew hg;go_upto_region 2 with fail;generalize w1.alloc _=X at hX aJ⊢;have bC:=Ux aJ;have zh:=Ux (ei.o.trans (aJ.mono ei.o.size));obtain⟨xc,xf,xz⟩:=hX.facts;clear hX aJ;generalize aw d.au n=f at HE HF;go_wp2_with fail;refine(HF.o _ bC.o).mono ?_;rintro e w2 ⟨rfl,aY⟩;have gn:=Ux (ar zh.o aY);clear aY xc xf xz;by_cases hf:f=0
  ·have eA:=Ux (HE.o.trans (if_pos hf));have iM:(f==0)=true:=by simpa using hf
   clear hf;go_wp2_with fail;go_ret2;rw[eA.o];exact⟨rfl,gn.o⟩
  ·have eA:=Ux (HE.o.trans (if_neg hf));have iM:(f==0)=false:=by simpa using hf
   clear hf;go_wp2_with fail;refine(pL.o _ gn.o _).mono ?_;rintro e w3 ⟨rfl,cl⟩;have uF:=Ux (ar gn.o cl);clear cl;go_wp2_with fail;go_ret2;rw[eA.o];exact⟨rfl,uF.o⟩
end
section
variable{w w':World}{pf pw:Nat}{R:Rp}{pv:Value}{Y:Sy}
theorem iD(h:bm w pf pw R pv Y){N:Nat}(hk:ay Y.fs N)(hN:N≤999999)(c:Cr)(dir:Int)(n:ByteArray) :
  Calls Tryz.prog 12 #[UH (some ⟨pf,0,none⟩),UJ #[UE UL c.u,UE UL c.g],UE UL dir,UF n] w fun e w'=>e=.returned (UK #[UE UL (Y.fs.aQ Y.dead c dir n).1,UE UL (Y.fs.aQ Y.dead c dir n).2])∧UA w w':=by
 obtain⟨ir,aJ⟩:=Uz w #[UE UL c.u,UE UL c.g] 64;have HR:=Ux (fun w1 (av:UA w w1)=>iC (h.an av));have HS:=Ux (fun w1 (av:UA w w1)=>Fw (h.wd.an av) hk hN c dir n);obtain⟨pc,-,pz⟩:=h.bD.facts;have ni:=Ux (fun w1 (av:UA w w1)=>show w1.cell? ⟨pf,0,none⟩=some (UH (some ⟨pw,0,none⟩)) from(av.cell (p:=⟨pf,0,none⟩) pz).trans (pc 0));have mixed:Tryz.prog.follows .mixedOrders=true:=by kernel_rfl
 clear h hk pc pz
 cases hd:Y.dead with
 |true=>
  rw[hd] at HR;clear hd HS;go_enter Tryz.func12,Tryz.ntmps12;go_wp2_with fail;refine(HR.o _ aJ).mono ?_;rintro e w1 ⟨rfl,rfl⟩;have HB:=Ux aJ;clear aJ ir;go_wp2_with fail;go_ret2;exact⟨rfl,HB.o⟩
 |false=>
  rw[hd] at HR;generalize Y.fs.aQ false c dir n=rd at HS⊢;clear hd;go_enter Tryz.func12,Tryz.ntmps12;go_wp2_with fail;refine(HR.o _ aJ).mono ?_;rintro e w1 ⟨rfl,rfl⟩;generalize w.alloc _=W0 at ir aJ⊢;have bC:=Ux aJ;have pc0:=ni.o _ aJ;obtain⟨cc,-,cz⟩:=ir.facts;clear ir aJ;go_wp2_with fail;refine aG 7 mixed (by kernel_rfl) (show cn _ from by repeat (first|exact cS|refine cR ?_|refine cx ?_|refine cG ?_)) ?_;simp only[List.take_succ_cons,List.take_zero,List.drop_succ_cons,List.drop_zero]
  repeat still_step
  refine wpStill_nil ?_;go_wp2_with fail;refine(HS.o _ bC.o.drew).mono ?_;rintro e w1 ⟨rfl,av⟩;have HB:=Ux (bC.o.drew.trans (av.mono bC.o.size));clear av;go_wp2_with fail;go_ret2;exact⟨rfl,HB.o⟩
theorem A8(h:bm w pf pw R pv Y){N:Nat}(hk:ay Y.fs N)(hN:N≤999999)(u g:Int)(t:ByteArray)(dir:Int)(n:ByteArray) :
  Calls Tryz.prog 144 #[UH (some ⟨pf,0,none⟩),UJ #[UE UL u,UE UL g,UF t],UE UL dir,UF n] w fun e w'=>e=.returned (UK #[UE UL (Y.fs.fg Y.dead ⟨u,g⟩ dir n).1,UE UL (Y.fs.fg Y.dead ⟨u,g⟩ dir n).2])∧UA w w':=by
 obtain⟨hX,aJ⟩:=Uz w #[UE UL u,UE UL g,UF t] 27;have HC:=Ux (fi u g t);have HL:=Ux (fun w1 (av:UA w w1)=>iD (h.an av) hk hN ⟨u,g⟩ dir n);have HG:=Ux (fun w1 (av:UA w w1) k=>RA (h.wd.an av) k);obtain⟨pc,-,pz⟩:=h.bD.facts;obtain⟨qc,-,qz⟩:=h.wd.bD.facts;have ni:=Ux (fun w1 (av:UA w w1)=>show w1.cell? ⟨pf,0,none⟩=some (UH (some ⟨pw,0,none⟩))∧w1.cell? ⟨pw,0,none⟩=some (UH (some ⟨R.pt,0,none⟩)) from⟨(av.cell (p:=⟨pf,0,none⟩) pz).trans (pc 0),(av.cell (p:=⟨pw,0,none⟩) qz).trans (qc 0)⟩);obtain⟨S,hS⟩:∃S,Y.fs=S:=⟨_,rfl⟩;obtain⟨b,hd⟩:∃b,Y.dead=b:=⟨_,rfl⟩;rw[hS,hd] at HL;rw[hS] at HG;rw[hS,hd];have HR:=Ux (show S.fg b ⟨u,g⟩ dir n=if(S.aQ b ⟨u,g⟩ dir n).2=5 then(0,0) else if(S.aQ b ⟨u,g⟩ dir n).2≠0 then(0,(S.aQ b ⟨u,g⟩ dir n).2) else FI ⟨u,g⟩ (S.bG (S.aQ b ⟨u,g⟩ dir n).1) (S.bG dir) (S.aQ b ⟨u,g⟩ dir n).1 from rfl);generalize S.fg b ⟨u,g⟩ dir n=rd at HR⊢;generalize S.aQ b ⟨u,g⟩ dir n=r at HR HL;obtain⟨no,e1⟩:=r;dsimp only at HR HL;clear h hk hS hd pc pz qc qz;go_enter Tryz.func144,Tryz.ntmps144;go_upto_region 1 with fail;generalize w.alloc _=W0 at hX aJ⊢;have HX:=Ux hX;have bC:=Ux aJ;obtain⟨xc,xf,xz⟩:=hX.facts;clear hX aJ;go_wp2_with fail;refine(HC.o _).mono ?_;rintro e w1 ⟨rfl,av⟩;have dX:=Ux (ar bC.o av);have HX1:=Ux (HX.o.an av);clear av xc xf xz;go_wp2_with fail;refine(HL.o _ dX.o).mono ?_;rintro e w2 ⟨rfl,aY⟩;have ei:=Ux (ar dX.o aY);have DC:=Ux (HX1.o.an aY);clear aY;by_cases h5:e1=5
 ·subst h5;have HE:=Ux (HR.o.trans (if_pos rfl));go_wp2_with fail;go_ret2;rw[HE.o];exact⟨rfl,ei.o⟩
 ·have h5':(e1==5)=false:=by simpa using h5
  by_cases h0:e1=0
  ·subst h0;have HE:=Ux (HR.o.trans ((if_neg (by decide)).trans (if_neg (by decide))));obtain⟨ea,el,ec,b1,hG1⟩:=HG.o _ ei.o no;have Rs:=Ux hG1;obtain⟨pc,qc⟩:=ni.o _ ei.o;unfold An.v at Rs;generalize S.bG no=x at HE Rs;clear hG1 h5 h5';go_wp2_with fail;refine(Rs.o _ (Below.refl _ _)).mono ?_;rintro e w3 ⟨rfl,cl⟩;have dM:=ao (ar ei.o cl) (.cells #[UE UL x.no,UE UL x.dev,UE UL x.kind,UE UL x.mode,UE UL x.uid,UE UL x.gid,UE UL x.mtime,UE UL x.ctime,UE UL x.ak,UE UL x.up,UF x.data,UG ea el ec] 149);have PI:=ax.new w3 #[UE UL x.no,UE UL x.dev,UE UL x.kind,UE UL x.mode,UE UL x.uid,UE UL x.gid,UE UL x.mtime,UE UL x.ctime,UE UL x.ak,UE UL x.up,UF x.data,UG ea el ec] 149;have xX:=(DC.o.an cl).bI (.cells #[UE UL x.no,UE UL x.dev,UE UL x.kind,UE UL x.mode,UE UL x.uid,UE UL x.gid,UE UL x.mtime,UE UL x.ctime,UE UL x.ak,UE UL x.up,UF x.data,UG ea el ec] 149);clear cl pc qc;go_upto_region 7 with fail;generalize w3.alloc _=W4 at dM PI xX⊢;have uF:=Ux dM;have vq:=Ux PI;have HX4:=Ux xX;obtain⟨fa,fl,fc,b2,Tk⟩:=HG.o _ uF.o dir;have OC:=Ux Tk;obtain⟨pc,qc⟩:=ni.o _ uF.o;unfold An.v at OC;generalize S.bG dir=y at HE OC;clear Tk dM PI xX;go_wp2_with fail;refine(OC.o _ (Below.refl _ _)).mono ?_;rintro e w5 ⟨rfl,cK⟩;have fp:=ao (ar uF.o cK) (.cells #[UE UL y.no,UE UL y.dev,UE UL y.kind,UE UL y.mode,UE UL y.uid,UE UL y.gid,UE UL y.mtime,UE UL y.ctime,UE UL y.ak,UE UL y.up,UF y.data,UG fa fl fc] 149);have PJ:=ax.new w5 #[UE UL y.no,UE UL y.dev,UE UL y.kind,UE UL y.mode,UE UL y.uid,UE UL y.gid,UE UL y.mtime,UE UL y.ctime,UE UL y.ak,UE UL y.up,UF y.data,UG fa fl fc] 149;have N7:=(vq.o.an cK).bI (.cells #[UE UL y.no,UE UL y.dev,UE UL y.kind,UE UL y.mode,UE UL y.uid,UE UL y.gid,UE UL y.mtime,UE UL y.ctime,UE UL y.ak,UE UL y.up,UF y.data,UG fa fl fc] 149);have N2:=(HX4.o.an cK).bI (.cells #[UE UL y.no,UE UL y.dev,UE UL y.kind,UE UL y.mode,UE UL y.uid,UE UL y.gid,UE UL y.mtime,UE UL y.ctime,UE UL y.ak,UE UL y.up,UF y.data,UG fa fl fc] 149);clear cK pc qc;go_upto_region 8 with fail;generalize w5.alloc _=W6 at fp PJ N7 N2⊢;have jJ:=Ux fp;have HN6:=Ux N7;obtain⟨mc,mf,mz⟩:=PJ.facts;obtain⟨nc,nf,nz⟩:=N7.facts;obtain⟨xc,xf,xz⟩:=N2.facts;clear fp PJ N7 N2;unfold FI at HE;by_cases h1:x.kind=1
   ·have o8:(x.kind != 1)=false:=by simpa using h1
    by_cases h2:x.dev=y.dev
    ·have kR:(x.dev != y.dev)=false:=by simpa using h2
     by_cases h3:x.uid=u
     ·have tR:(x.uid != u)=false:=by simpa using h3
      have bS:=Ux (HE.o.trans ((if_neg (by simpa using h1)).trans ((if_neg (by simpa using h2)).trans (if_neg (by simpa using h3)))));have lX:=Ux (fun w=>kB ⟨u,g⟩ x ea el ec 7 w);unfold Cr.v An.v at lX;generalize x.may ⟨u,g⟩ 7=m at bS lX;clear h1 h2 h3;go_wp2_with fail
      go_region_held3 (fun w'=>(∀b o,b<W6.heap.size→w'.cell? ⟨b,o,none⟩=W6.cell? ⟨b,o,none⟩)∧UA W6 w') (first|with_reducible assumption|with_reducible exact eH _|with_reducible exact dU _|with_reducible exact eb (by assumption) (by assumption)|with_reducible exact dF (by assumption) _|with_reducible exact du (by assumption) _|with_reducible exact cX (by assumption) (by assumption)|with_reducible exact eG (by assumption) (by assumption))
       ((first
        |(go_at_call 13;((with_reducible refine(HC.o _).mono ?_);rintro e w7 ⟨rfl,lQ⟩))
        |(go_at_call 104;((with_reducible refine(lX.o _).mono ?_);rintro e w8 ⟨rfl,rl⟩))))
      all_goals
       have hbz:UA W6 w8:=And.right (by assumption);have rX:=Ux (ar jJ.o hbz);clear hbz
       cases m with
       |false=>
        have kP:=Ux (bS.o.trans (if_pos rfl));go_wp2_with fail;go_ret2;rw[kP.o];exact⟨rfl,rX.o⟩
       |true=>
        have kP:=Ux (bS.o.trans (if_neg (by decide)));go_wp2_with fail;go_ret2;rw[kP.o];exact⟨rfl,rX.o⟩
     ·have tR:(x.uid != u)=true:=by simpa using h3
      have bS:=Ux (HE.o.trans ((if_neg (by simpa using h1)).trans ((if_neg (by simpa using h2)).trans (if_pos h3))));clear h1 h2 h3;go_wp2_with fail;go_ret2;rw[bS.o];exact⟨rfl,jJ.o⟩
    ·have kR:(x.dev != y.dev)=true:=by simpa using h2
     have bS:=Ux (HE.o.trans ((if_neg (by simpa using h1)).trans (if_pos h2)));clear h1 h2;go_wp2_with fail;go_ret2;rw[bS.o];exact⟨rfl,jJ.o⟩
   ·have o8:(x.kind != 1)=true:=by simpa using h1
    have bS:=Ux (HE.o.trans (if_pos h1));clear h1;go_wp2_with fail;go_ret2;rw[bS.o];exact⟨rfl,jJ.o⟩
  ·have MW:(e1 != 0)=true:=by simpa using h0
   have HE:=Ux (HR.o.trans ((if_neg h5).trans (if_pos h0)));clear h0 h5;go_wp2_with fail;go_ret2;rw[HE.o];exact⟨rfl,ei.o⟩
end
end
end Go.Proofs.YtabbjaomlmnnhaaGreat
