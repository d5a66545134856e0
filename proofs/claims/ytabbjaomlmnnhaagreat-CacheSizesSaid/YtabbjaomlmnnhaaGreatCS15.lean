import Derived.Deep.CutBlock
import Derived.Deep.DeepCutAuto
import Derived.RegionTactic
import Derived.BigRegion
import Derived.Deep.QuietTactic
import Derived.BigQuiet
import Derived.WalkSmall
import Derived.Test.YtabbjaomlmnnhaaGreatCS14
import Derived.Test.YtabbjaomlmnnhaaGreatCS13
import Derived.Test.YtabbjaomlmnnhaaGreatCS11
import Derived.Test.YtabbjaomlmnnhaaGreatCS6
import Derived.Test.YtabbjaomlmnnhaaGreatCS4
import Derived.Test.YtabbjaomlmnnhaaGreatCS12
import Derived.Test.YtabbjaomlmnnhaaGreatCS5
import Derived.Test.YtabbjaomlmnnhaaGreatCS8
import Derived.Test.YtabbjaomlmnnhaaGreatCS10
set_option linter.unusedVariables false
set_option linter.unusedSimpArgs false
set_option maxRecDepth 100000
set_option maxHeartbeats 16000000
namespace Go.Proofs.YtabbjaomlmnnhaaGreat
section
open Go.RowKit
section
variable{w w':World}{pf:Nat}{R:Rf}{S:Fs}
theorem ob(h:aN w pf R S)(no:Int)(hg:S.get no=none) :
  Calls Tryz.prog 138 #[.pointer (some ⟨pf,0,none⟩),.agg #[.int .i64 0,.int .i64 0],.int .i64 no] w fun e w'=>e=.returned (.int .i64 5)∧Qi w w':=by
 have cH:=(Below.refl _ w).alloc (aa _) (.cells #[.int .i64 0,.int .i64 0] 64);have HG:=Qf (lx (h.ak cH) hg);have bP:=Qf cH;unfold An.v cS at HG;clear h hg cH;go_enter Tryz.func138,Tryz.ntmps138;go_wp2_with fail;refine HG.o.mono ?_;rintro e w1 ⟨rfl,av⟩;have HB:=Qf (aq (au bP.o av) (.cells #[.int .i64 0,.int .i64 0,.int .i64 0,.int .i64 0,.int .i64 0,.int .i64 0,.int .i64 0,.int .i64 0,.int .i64 0,.int .i64 0,.string ByteArray.empty,.slice none 0 0] 149));clear av;go_wp2_with fail;go_ret;exact⟨rfl,HB.o⟩
theorem ml(h:aN w pf R S){N:Nat}(hk:ax S N)(no:Int){a:An}(hg:S.get no=some a) :
  Calls Tryz.prog 138 #[.pointer (some ⟨pf,0,none⟩),.agg #[.int .i64 0,.int .i64 0],.int .i64 no] w fun e w'=>e=.returned (.int .i64 0)∧Qi w w':=by
 obtain⟨-,hno,nR,-⟩:=hk.get hg;have hz:(a.no==0)=false:=by simp only[beq_eq_false_iff_ne,ne_eq];omega
 have cH:=(Below.refl _ w).alloc (aa _) (.cells #[.int .i64 0,.int .i64 0] 64);obtain⟨ea,el,ec,-,hG⟩:=kI (h.ak cH) hg;have HG:=Qf hG;have HO:=Qf (fun w=>wQ a ea el ec w);have iS:=aw.new w #[.int .i64 0,.int .i64 0] 64;have sV:=Qf iS;have bP:=Qf cH;unfold An.v at HG HO;clear h hk hg cH hG hno iS;go_enter Tryz.func138,Tryz.ntmps138;go_wp2_with fail;refine HG.o.mono ?_;rintro e w1 ⟨rfl,av⟩;have eT:=(sV.o.ak av).old (.cells #[.int .i64 a.no,.int .i64 a.dev,.int .i64 a.kind,.int .i64 a.mode,.int .i64 a.uid,.int .i64 a.gid,.int .i64 a.mtime,.int .i64 a.ctime,.int .i64 a.ao,.int .i64 a.up,.string a.data,.slice ea el ec] 149);have lJ:=aw.new w1 #[.int .i64 a.no,.int .i64 a.dev,.int .i64 a.kind,.int .i64 a.mode,.int .i64 a.uid,.int .i64 a.gid,.int .i64 a.mtime,.int .i64 a.ctime,.int .i64 a.ao,.int .i64 a.up,.string a.data,.slice ea el ec] 149;have hbb:=aq (au bP.o av) (.cells #[.int .i64 a.no,.int .i64 a.dev,.int .i64 a.kind,.int .i64 a.mode,.int .i64 a.uid,.int .i64 a.gid,.int .i64 a.mtime,.int .i64 a.ctime,.int .i64 a.ao,.int .i64 a.up,.string a.data,.slice ea el ec] 149);go_upto_region 2 with fail;generalize w1.alloc _=X at eT lJ hbb⊢;have iX:=Qf hbb;obtain⟨dc,-,-⟩:=lJ.facts;obtain⟨cc,-,-⟩:=eT.facts;clear av eT lJ hbb;go_wp2_with fail;refine(HO.o _).mono ?_;rintro e w2 ⟨rfl,aS⟩;have dS:=Qf (au iX.o aS);clear aS;go_wp2_with fail;go_ret;exact⟨rfl,dS.o⟩
theorem Cw(h:aN w pf R S){N:Nat}(hk:ax S N)(no:Int)(t:Int) :
  Calls Tryz.prog 97 #[.pointer (some ⟨pf,0,none⟩),.agg #[.int .i64 0,.int .i64 0],.int .i64 no,.int .i64 t] w fun e w'=>e=.returned (.int .i64 (S.cA bM R.now no t).2)∧∃R',aN w' pf R' (S.cA bM R.now no t).1∧aR (R.F pf) (R'.F pf) w w'∧Rf.cy R R':=by
 have hkeep:∀w2,Qi w w2→∃R',aN w2 pf R' S∧aR (R.F pf) (R'.F pf) w w2∧Rf.cy R R':=fun w2 hb=>⟨R,h.ak hb,aR.ar hb,Rf.cy.refl R⟩;have jS:=Qf hkeep;have cH:=(Below.refl _ w).alloc (aa _) (.cells #[.int .i64 0,.int .i64 0] 64);have bP:=Qf cH
 cases hg:S.get no with
 |none=>
  have HQ:=Qf (show S.cA bM R.now no t=(S,5) by unfold Fs.cA;rw[hg]);have HO:=Qf (ob (h.ak cH) no hg);clear h hk hg hkeep cH;go_enter Tryz.func97,Tryz.ntmps97;go_wp2_with fail;refine HO.o.mono ?_;rintro e w1 ⟨rfl,av⟩;have HB:=Qf (au bP.o av);clear av;go_wp2_with fail;go_ret;rw[HQ.o];exact⟨rfl,jS.o _ HB.o⟩
 |some a=>
  have hno:=cj hg;have HO:=Qf (ml (h.ak cH) hk no hg);obtain⟨ea,el,ec,hE,hG⟩:=iH h hg;have HG:=Qf hG;have ed:=Qf (fun w1 (hb:Qi w w1)=>jE (h.ak hb) hk.nums (a:={a with mtime:=t,ctime:=R.now}) (hE.ak hb) (b:=a) (by show S.get a.no=some a;rw[hno];exact hg));have iS:=aw.new w #[.int .i64 0,.int .i64 0] 64;have sV:=Qf iS;have nM:=Qf (show S.cA bM R.now no t=(if t<0∨253402300799<t then(S,1) else(S.set {a with mtime:=t,ctime:=R.now},0)) by unfold Fs.cA;rw[hg];rfl);obtain⟨pc,-,pz⟩:=h.aZ.facts;unfold An.v at HG ed;generalize hnow:R.now=now at nM ed pc;have HHk:=Qf h;clear h hk hg hkeep cH hG hE iS hno hnow;by_cases h1:t<0
  ·have HQ:=Qf (nM.o.trans (if_pos (.inl h1)));go_enter Tryz.func97,Tryz.ntmps97;go_wp2_with fail;refine HO.o.mono ?_;rintro e w1 ⟨rfl,av⟩;have eT:=sV.o.ak av;have hbb:=au bP.o av;have sU:=Qf eT;have iX:=Qf hbb;obtain⟨cc,-,-⟩:=eT.facts;have pc2:=(hbb.cell (p:=⟨pf,3,none⟩) pz).trans (pc 3);clear av eT hbb;go_wp2_with fail;go_ret;rw[HQ.o];exact⟨rfl,jS.o _ iX.o⟩
  ·by_cases h2:253402300799<t
   ·have HQ:=Qf (nM.o.trans (if_pos (.inr h2)));go_enter Tryz.func97,Tryz.ntmps97;go_wp2_with fail;refine HO.o.mono ?_;rintro e w1 ⟨rfl,av⟩;have eT:=sV.o.ak av;have hbb:=au bP.o av;have sU:=Qf eT;have iX:=Qf hbb;obtain⟨cc,-,-⟩:=eT.facts;have pc2:=(hbb.cell (p:=⟨pf,3,none⟩) pz).trans (pc 3);clear av eT hbb;go_wp2_with fail;go_ret;rw[HQ.o];exact⟨rfl,jS.o _ iX.o⟩
   ·have HQ:=Qf (nM.o.trans (if_neg (by omega)));go_enter Tryz.func97,Tryz.ntmps97;go_wp2_with fail;refine HO.o.mono ?_;rintro e w1 ⟨rfl,av⟩;have eT:=sV.o.ak av;have hbb:=au bP.o av;have sU:=Qf eT;have iX:=Qf hbb;obtain⟨cc,-,-⟩:=eT.facts;have pc2:=(hbb.cell (p:=⟨pf,3,none⟩) pz).trans (pc 3);clear av eT hbb;go_wp2_with fail;refine(HG.o _ iX.o).mono ?_;rintro e w2 ⟨rfl,aS⟩;have pc3:=(aS.cell (p:=⟨pf,3,none⟩) (Nat.lt_of_lt_of_le pz iX.o.size)).trans pc2;have Df:pf<w2.heap.size:=Nat.lt_of_lt_of_le (Nat.lt_of_lt_of_le pz iX.o.size) aS.size;have aI:=aq (au iX.o aS) (.cells #[.int .i64 a.no,.int .i64 a.dev,.int .i64 a.kind,.int .i64 a.mode,.int .i64 a.uid,.int .i64 a.gid,.int .i64 t,.int .i64 now,.int .i64 a.ao,.int .i64 a.up,.string a.data,.slice ea el ec] 149);have HS:=Qf (ed.o _ aI);have aW:=Qf aI;clear aS aI pc pc2;go_wp2_with fail;refine HS.o.mono ?_;rintro e w5 ⟨rfl,R',eh,dq,ga,-⟩;have HR:=Qf (ag eh (ag dq ga));clear eh dq ga;go_wp2_with fail;go_ret;rw[HQ.o];exact⟨rfl,R',HR.o.1,(aR.ar aW.o).trans HR.o.2.1,HR.o.2.2⟩
theorem zN(h:aN w pf R S){N:Nat}(hk:ax S N)(no:Int)(u g:Int) :
  Calls Tryz.prog 95 #[.pointer (some ⟨pf,0,none⟩),.agg #[.int .i64 0,.int .i64 0],.int .i64 no,.int .i64 u,.int .i64 g] w fun e w'=>e=.returned (.int .i64 (S.cD bM R.now no u g).2)∧∃R',aN w' pf R' (S.cD bM R.now no u g).1∧aR (R.F pf) (R'.F pf) w w'∧Rf.cy R R':=by
 have hkeep:∀w2,Qi w w2→∃R',aN w2 pf R' S∧aR (R.F pf) (R'.F pf) w w2∧Rf.cy R R':=fun w2 hb=>⟨R,h.ak hb,aR.ar hb,Rf.cy.refl R⟩;have jS:=Qf hkeep;have cH:=(Below.refl _ w).alloc (aa _) (.cells #[.int .i64 0,.int .i64 0] 64);have bP:=Qf cH
 cases hg:S.get no with
 |none=>
  have HQ:=Qf (show S.cD bM R.now no u g=(S,5) by unfold Fs.cD;rw[hg]);have HO:=Qf (ob (h.ak cH) no hg);clear h hk hg hkeep cH;go_enter Tryz.func95,Tryz.ntmps95;go_wp2_with fail;refine HO.o.mono ?_;rintro e w1 ⟨rfl,av⟩;have HB:=Qf (au bP.o av);clear av;go_wp2_with fail;go_ret;rw[HQ.o];exact⟨rfl,jS.o _ HB.o⟩
 |some a=>
  have hno:=cj hg;have HO:=Qf (ml (h.ak cH) hk no hg);obtain⟨ea,el,ec,hE,hG⟩:=iH h hg;have HG:=Qf hG;have ed:=Qf (fun w1 (hb:Qi w w1)=>jE (h.ak hb) hk.nums (a:={a with uid:=u,gid:=g,ctime:=R.now}) (hE.ak hb) (b:=a) (by show S.get a.no=some a;rw[hno];exact hg));have uo:=Qf (fun w=>zP u g w);have iS:=aw.new w #[.int .i64 0,.int .i64 0] 64;have sV:=Qf iS;have nM:=Qf (show S.cD bM R.now no u g=(if GV u g=false then(S,1) else(S.set {a with uid:=u,gid:=g,ctime:=R.now},0)) by unfold Fs.cD;rw[hg];rfl);obtain⟨pc,-,pz⟩:=h.aZ.facts;unfold An.v at HG ed;generalize hnow:R.now=now at nM ed pc;have HHk:=Qf h;clear h hk hg hkeep cH hG hE iS hno hnow
  cases hid:GV u g with
  |false=>
   have HQ:=Qf (nM.o.trans (if_pos hid));rw[hid] at uo;clear hid;go_enter Tryz.func95,Tryz.ntmps95;go_wp2_with fail;refine HO.o.mono ?_;rintro e w1 ⟨rfl,av⟩;have eT:=sV.o.ak av;have hbb:=au bP.o av;have sU:=Qf eT;have iX:=Qf hbb;obtain⟨cc,-,-⟩:=eT.facts;have pc2:=(hbb.cell (p:=⟨pf,3,none⟩) pz).trans (pc 3);clear av eT hbb;go_wp2_with fail;refine(uo.o _).mono ?_;rintro e w3 ⟨rfl,bK⟩;have Aq:=au iX.o bK;have pc4:=(Aq.cell (p:=⟨pf,3,none⟩) pz).trans (pc 3)
   replace iX:=Qf Aq
   replace pc2:=pc4
   clear bK Aq pc4;go_wp2_with fail;go_ret;rw[HQ.o];exact⟨rfl,jS.o _ iX.o⟩
  |true=>
   have HQ:=Qf (nM.o.trans (if_neg (by rw[hid];decide)));rw[hid] at uo;clear hid;go_enter Tryz.func95,Tryz.ntmps95;go_wp2_with fail;refine HO.o.mono ?_;rintro e w1 ⟨rfl,av⟩;have eT:=sV.o.ak av;have hbb:=au bP.o av;have sU:=Qf eT;have iX:=Qf hbb;obtain⟨cc,-,-⟩:=eT.facts;have pc2:=(hbb.cell (p:=⟨pf,3,none⟩) pz).trans (pc 3);clear av eT hbb;go_wp2_with fail;refine(uo.o _).mono ?_;rintro e w3 ⟨rfl,bK⟩;have Aq:=au iX.o bK;have pc4:=(Aq.cell (p:=⟨pf,3,none⟩) pz).trans (pc 3)
   replace iX:=Qf Aq
   replace pc2:=pc4
   clear bK Aq pc4;go_wp2_with fail;refine(HG.o _ iX.o).mono ?_;rintro e w2 ⟨rfl,aS⟩;have pc3:=(aS.cell (p:=⟨pf,3,none⟩) (Nat.lt_of_lt_of_le pz iX.o.size)).trans pc2;have Df:pf<w2.heap.size:=Nat.lt_of_lt_of_le (Nat.lt_of_lt_of_le pz iX.o.size) aS.size;have aI:=aq (au iX.o aS) (.cells #[.int .i64 a.no,.int .i64 a.dev,.int .i64 a.kind,.int .i64 a.mode,.int .i64 u,.int .i64 g,.int .i64 a.mtime,.int .i64 now,.int .i64 a.ao,.int .i64 a.up,.string a.data,.slice ea el ec] 149);have HS:=Qf (ed.o _ aI);have aW:=Qf aI;clear aS aI pc pc2;go_wp2_with fail;refine HS.o.mono ?_;rintro e w5 ⟨rfl,R',eh,dq,ga,-⟩;have HR:=Qf (ag eh (ag dq ga));clear eh dq ga;go_wp2_with fail;go_ret;rw[HQ.o];exact⟨rfl,R',HR.o.1,(aR.ar aW.o).trans HR.o.2.1,HR.o.2.2⟩
theorem CB(h:aN w pf R S){N:Nat}(hk:ax S N)(no:Int)(m:Int) :
  Calls Tryz.prog 96 #[.pointer (some ⟨pf,0,none⟩),.agg #[.int .i64 0,.int .i64 0],.int .i64 no,.int .i64 m] w fun e w'=>e=.returned (.int .i64 (S.cw bM R.now no m).2)∧∃R',aN w' pf R' (S.cw bM R.now no m).1∧aR (R.F pf) (R'.F pf) w w'∧Rf.cy R R':=by
 have hkeep:∀w2,Qi w w2→∃R',aN w2 pf R' S∧aR (R.F pf) (R'.F pf) w w2∧Rf.cy R R':=fun w2 hb=>⟨R,h.ak hb,aR.ar hb,Rf.cy.refl R⟩;have jS:=Qf hkeep;have cH:=(Below.refl _ w).alloc (aa _) (.cells #[.int .i64 0,.int .i64 0] 64);have bP:=Qf cH
 cases hg:S.get no with
 |none=>
  have HQ:=Qf (show S.cw bM R.now no m=(S,5) by unfold Fs.cw;rw[hg]);have HO:=Qf (ob (h.ak cH) no hg);clear h hk hg hkeep cH;go_enter Tryz.func96,Tryz.ntmps96;go_wp2_with fail;refine HO.o.mono ?_;rintro e w1 ⟨rfl,av⟩;have HB:=Qf (au bP.o av);clear av;go_wp2_with fail;go_ret;rw[HQ.o];exact⟨rfl,jS.o _ HB.o⟩
 |some a=>
  have hno:=cj hg;have HO:=Qf (ml (h.ak cH) hk no hg);obtain⟨ea,el,ec,hE,hG⟩:=iH h hg;have HG:=Qf hG;have ed:=Qf (fun w1 (hb:Qi w w1)=>jE (h.ak hb) hk.nums (a:={a with mode:=m,ctime:=R.now}) (hE.ak hb) (b:=a) (by show S.get a.no=some a;rw[hno];exact hg));have iS:=aw.new w #[.int .i64 0,.int .i64 0] 64;have sV:=Qf iS;have nM:=Qf (show S.cw bM R.now no m=(if m<0∨1023<m∨a.kind=3 then(S,1) else(S.set {a with mode:=m,ctime:=R.now},0)) by unfold Fs.cw;rw[hg];rfl);obtain⟨pc,-,pz⟩:=h.aZ.facts;unfold An.v at HG ed;generalize hnow:R.now=now at nM ed pc;have HHk:=Qf h;clear h hk hg hkeep cH hG hE iS hno hnow;by_cases h1:m<0
  ·have HQ:=Qf (nM.o.trans (if_pos (.inl h1)));go_enter Tryz.func96,Tryz.ntmps96;go_wp2_with fail;refine HO.o.mono ?_;rintro e w1 ⟨rfl,av⟩;have eT:=sV.o.ak av;have hbb:=au bP.o av;have sU:=Qf eT;have iX:=Qf hbb;obtain⟨cc,-,-⟩:=eT.facts;have pc2:=(hbb.cell (p:=⟨pf,3,none⟩) pz).trans (pc 3);clear av eT hbb;go_wp2_with fail;refine(HG.o _ iX.o).mono ?_;rintro e w2 ⟨rfl,aS⟩;have yV:=Qf (aq (au iX.o aS) (.cells #[.int .i64 a.no,.int .i64 a.dev,.int .i64 a.kind,.int .i64 a.mode,.int .i64 a.uid,.int .i64 a.gid,.int .i64 a.mtime,.int .i64 a.ctime,.int .i64 a.ao,.int .i64 a.up,.string a.data,.slice ea el ec] 149));clear aS;go_wp2_with fail;go_ret;rw[HQ.o];exact⟨rfl,jS.o _ yV.o⟩
  ·by_cases h2:1023<m
   ·have HQ:=Qf (nM.o.trans (if_pos (.inr (.inl h2))));go_enter Tryz.func96,Tryz.ntmps96;go_wp2_with fail;refine HO.o.mono ?_;rintro e w1 ⟨rfl,av⟩;have eT:=sV.o.ak av;have hbb:=au bP.o av;have sU:=Qf eT;have iX:=Qf hbb;obtain⟨cc,-,-⟩:=eT.facts;have pc2:=(hbb.cell (p:=⟨pf,3,none⟩) pz).trans (pc 3);clear av eT hbb;go_wp2_with fail;refine(HG.o _ iX.o).mono ?_;rintro e w2 ⟨rfl,aS⟩;have yV:=Qf (aq (au iX.o aS) (.cells #[.int .i64 a.no,.int .i64 a.dev,.int .i64 a.kind,.int .i64 a.mode,.int .i64 a.uid,.int .i64 a.gid,.int .i64 a.mtime,.int .i64 a.ctime,.int .i64 a.ao,.int .i64 a.up,.string a.data,.slice ea el ec] 149));clear aS;go_wp2_with fail;go_ret;rw[HQ.o];exact⟨rfl,jS.o _ yV.o⟩
   ·by_cases h3:a.kind=3
    ·have HQ:=Qf (nM.o.trans (if_pos (.inr (.inr h3))));have q3:(a.kind==3)=true:=by simpa using h3
     clear h3;go_enter Tryz.func96,Tryz.ntmps96;go_wp2_with fail;refine HO.o.mono ?_;rintro e w1 ⟨rfl,av⟩;have eT:=sV.o.ak av;have hbb:=au bP.o av;have sU:=Qf eT;have iX:=Qf hbb;obtain⟨cc,-,-⟩:=eT.facts;have pc2:=(hbb.cell (p:=⟨pf,3,none⟩) pz).trans (pc 3);clear av eT hbb;go_wp2_with fail;refine(HG.o _ iX.o).mono ?_;rintro e w2 ⟨rfl,aS⟩;have yV:=Qf (aq (au iX.o aS) (.cells #[.int .i64 a.no,.int .i64 a.dev,.int .i64 a.kind,.int .i64 a.mode,.int .i64 a.uid,.int .i64 a.gid,.int .i64 a.mtime,.int .i64 a.ctime,.int .i64 a.ao,.int .i64 a.up,.string a.data,.slice ea el ec] 149));clear aS;go_wp2_with fail;go_ret;rw[HQ.o];exact⟨rfl,jS.o _ yV.o⟩
    ·have HQ:=Qf (nM.o.trans (if_neg (by omega)));have q3:(a.kind==3)=false:=by simpa using h3
     clear h3;go_enter Tryz.func96,Tryz.ntmps96;go_wp2_with fail;refine HO.o.mono ?_;rintro e w1 ⟨rfl,av⟩;have eT:=sV.o.ak av;have hbb:=au bP.o av;have sU:=Qf eT;have iX:=Qf hbb;obtain⟨cc,-,-⟩:=eT.facts;have pc2:=(hbb.cell (p:=⟨pf,3,none⟩) pz).trans (pc 3);clear av eT hbb;go_wp2_with fail;refine(HG.o _ iX.o).mono ?_;rintro e w2 ⟨rfl,aS⟩;have pc3:=(aS.cell (p:=⟨pf,3,none⟩) (Nat.lt_of_lt_of_le pz iX.o.size)).trans pc2;have Df:pf<w2.heap.size:=Nat.lt_of_lt_of_le (Nat.lt_of_lt_of_le pz iX.o.size) aS.size;have aI:=aq (au iX.o aS) (.cells #[.int .i64 a.no,.int .i64 a.dev,.int .i64 a.kind,.int .i64 m,.int .i64 a.uid,.int .i64 a.gid,.int .i64 a.mtime,.int .i64 now,.int .i64 a.ao,.int .i64 a.up,.string a.data,.slice ea el ec] 149);have HS:=Qf (ed.o _ aI);have aW:=Qf aI;clear aS aI pc pc2;go_wp2_with fail;refine HS.o.mono ?_;rintro e w5 ⟨rfl,R',eh,dq,ga,-⟩;have HR:=Qf (ag eh (ag dq ga));clear eh dq ga;go_wp2_with fail;go_ret;rw[HQ.o];exact⟨rfl,R',HR.o.1,(aR.ar aW.o).trans HR.o.2.1,HR.o.2.2⟩
end
end
section
open Go.RowKit
section
variable{w w':World}{pf:Nat}{R:Rf}{S:Fs}
theorem ly(h:aN w pf R S)(k:Int):∃ea el ec,aA w ea el ec (S.bl k).ay∧∀w1,Qi w w1→
  Calls Tryz.prog 134 #[.pointer (some ⟨pf,0,none⟩),.int .i64 k] w1 fun e w'=>e=.returned ((S.bl k).v ea el ec)∧Qi w1 w':=by
 cases hg:S.get k with
 |none=>
  rw[iB hg];exact⟨none,0,0,aA.nil w,fun w1 hb=>lx (h.ak hb) hg⟩
 |some a=>
  rw[dE hg];exact iH h hg
theorem Io(h:aN w pf R S){N:Nat}(hk:ax S N)(dir:Int)(s:ByteArray)(hs:s.size≤100000):∃dz ea el ec,aA w ea el ec dz.ay∧(S.aP bM dir s=0→S.get dir=some dz)∧
  Calls Tryz.prog 178 #[.pointer (some ⟨pf,0,none⟩),.agg #[.int .i64 0,.int .i64 0],.int .i64 dir,.string s] w fun e w'=>e=.returned (.tuple #[dz.v ea el ec,.int .i64 (S.aP bM dir s)])∧Qi w w':=by
 cases hg:S.get dir with
 |none=>
  have hp:S.aP bM dir s=5:=by unfold Fs.aP;rw[hg]
  have hq:=wO h dir s hg;rw[←hp] at hq;exact⟨cS,none,0,0,aA.nil w,(fun e=>absurd (hp.symm.trans e) (by decide)),hq⟩
 |some d=>
  obtain⟨ea,el,ec,hE,hP⟩:=wN h hk dir s hs d hg;by_cases hp:S.aP bM dir s=0
  ·refine⟨d,ea,el,ec,hE,(fun _=>rfl),hP.mono ?_⟩;rintro e w1 ⟨⟨h1,-⟩|⟨-,rfl⟩,hb⟩
   ·exact absurd hp h1
   ·exact⟨by rw[hp],hb⟩
  ·refine⟨cS,none,0,0,aA.nil w,(fun e=>absurd e hp),hP.mono ?_⟩;rintro e w1 ⟨⟨-,rfl⟩|⟨h1,-⟩,hb⟩
   ·exact⟨rfl,hb⟩
   ·exact absurd h1 hp
theorem BG{S:Fs}{N:Nat}(hk:ax S N)(k:Int):((S.bl k).no==0)=(S.get k).isNone:=by
 cases hg:S.get k with
 |none=>rw[iB hg];rfl
 |some a=>
  rw[dE hg];obtain⟨-,h1,h2,-⟩:=hk.get hg;simp only[Option.isNone_some,beq_eq_false_iff_ne,ne_eq];omega
theorem CJ(h:aN w pf R S){N:Nat}(hk:ax S N)(hN:N≤100000)(no dir:Int)(s:ByteArray)(hs:s.size≤100000) :
  Calls Tryz.prog 137 #[.pointer (some ⟨pf,0,none⟩),.agg #[.int .i64 0,.int .i64 0],.int .i64 no,.int .i64 dir,.string s] w fun e w'=>e=.returned (.int .i64 (S.ez bM R.now no dir s).2)∧∃R',aN w' pf R' (S.ez bM R.now no dir s).1∧aR (R.F pf) (R'.F pf) w w'∧Rf.cy R R':=by
 have hkeep:∀w2,Qi w w2→∃R',aN w2 pf R' S∧aR (R.F pf) (R'.F pf) w w2∧Rf.cy R R':=fun w2 hb=>⟨R,h.ak hb,aR.ar hb,Rf.cy.refl R⟩;have jS:=Qf hkeep;have cH:=(Below.refl _ w).alloc (aa _) (.cells #[.int .i64 0,.int .i64 0] 64);have bP:=Qf cH;obtain⟨dz,da,dl,dc,hE,hdz,hP⟩:=Io (h.ak cH) hk dir s hs;obtain⟨na,nl,nc,Lx,hG⟩:=ly h no;have hnz:=BG hk no;have HP:=Qf hP;have HG:=Qf hG;have HE:=Qf hE;have HDl:=Qf hE.len;have HF:=Qf (show∀k,w.heap.size≤k→¬R.F pf k from fun k hk hf=>by have:=h.lt hf;omega);have HH:=Qf h;by_cases hpe:S.aP bM dir s=0
 ·have hgd:=hdz hpe;obtain⟨hdo,hdn,-,-⟩:=hk.get hgd
  cases hgn:S.get no with
  |none=>
   have HQ:=Qf (show S.ez bM R.now no dir s=(S,5) by unfold Fs.ez;rw[if_neg (by simpa using hpe),hgd,hgn]);rw[hgn] at hnz;have FE:((S.bl no).no==0)=true:=hnz;rw[hpe] at HP;unfold An.v at HP HG;generalize S.bl no=nd at HG FE Lx;clear h hk hkeep cH hE hdz hP hG hnz hgd hdo hdn hgn hpe Lx;go_enter Tryz.func137,Tryz.ntmps137;go_wp2_with fail;refine HP.o.mono ?_;rintro e w1 ⟨rfl,av⟩;have hbb:=aq (au bP.o av) (.cells #[.int .i64 dz.no,.int .i64 dz.dev,.int .i64 dz.kind,.int .i64 dz.mode,.int .i64 dz.uid,.int .i64 dz.gid,.int .i64 dz.mtime,.int .i64 dz.ctime,.int .i64 dz.ao,.int .i64 dz.up,.string dz.data,.slice da dl dc] 149);have iX:=Qf hbb;clear av hbb;go_wp2_with fail;refine(HG.o _ iX.o).mono ?_;rintro e w2 ⟨rfl,aS⟩;have dS:=Qf (aq (au iX.o aS) (.cells #[.int .i64 nd.no,.int .i64 nd.dev,.int .i64 nd.kind,.int .i64 nd.mode,.int .i64 nd.uid,.int .i64 nd.gid,.int .i64 nd.mtime,.int .i64 nd.ctime,.int .i64 nd.ao,.int .i64 nd.up,.string nd.data,.slice na nl nc] 149));clear aS;go_wp2_with fail;go_ret;rw[HQ.o];exact⟨rfl,jS.o _ dS.o⟩
  |some n=>
   rw[dE hgn] at hnz hG HG Lx;rw[hgn] at hnz;have FE:(n.no==0)=false:=hnz;have hnn:=cj hgn;have hel:dl≤100000:=by have:=hdo.mJ;have:=HDl.o;omega
   have nM:=Qf (show S.ez bM R.now no dir s=if n.kind=1 then(S,4) else if aF dz.ay s≠0 then(S,7) else if n.dev≠dz.dev then(S,11) else if 1000≤n.ao then(S,18) else((S.set {n with ao:=n.ao+1,ctime:=R.now}).bE R.now dir (ct dz.ay s no),0) by unfold Fs.ez;rw[if_neg (by simpa using hpe),hgd,hgn]);have ed:=Qf (fun w1 (hb:Qi w w1)=>jE (h.ak hb) hk.nums (a:={n with ao:=n.ao+1,ctime:=R.now}) (Lx.ak hb) (b:=n) (by show S.get n.no=some n;rw[hnn];exact hgn));have pP:=Qf (hk.nums.set {n with ao:=n.ao+1,ctime:=R.now});have HGd:=Qf (show n.kind≠1→(S.set {n with ao:=n.ao+1,ctime:=R.now}).get dir=some dz from fun gD=>by
    rw[iM (b:=n) (by show S.get n.no=some n;rw[hnn];exact hgn),if_neg]
    ·exact hgd
    ·intro e;have e2:dir=no:=e.trans hnn;rw[e2,hgn] at hgd;injection hgd with hgd;subst hgd;have h5:=hpe;unfold Fs.aP at h5;rw[e2,hgn] at h5;simp only at h5;rw[if_pos gD] at h5
     cases h5)
   have hlk:-9223372036854775808≤n.ao∧n.ao≤1000:=by
    have:=(hk.get hgn).1.ao;omega
   obtain⟨pc,-,pz⟩:=h.aZ.facts;rw[hpe] at HP;unfold An.v at HP HG ed;generalize hnow:R.now=now at nM ed pP HGd pc;have vM:=Qf hnow;clear h hk hkeep cH hE hdz hP hG hnz hgd hdo hdn hgn hpe Lx hnn hnow;go_enter Tryz.func137,Tryz.ntmps137;go_wp2_with fail;refine HP.o.mono ?_;rintro e w1 ⟨rfl,av⟩;have hbb:=aq (au bP.o av) (.cells #[.int .i64 dz.no,.int .i64 dz.dev,.int .i64 dz.kind,.int .i64 dz.mode,.int .i64 dz.uid,.int .i64 dz.gid,.int .i64 dz.mtime,.int .i64 dz.ctime,.int .i64 dz.ao,.int .i64 dz.up,.string dz.data,.slice da dl dc] 149);have BC:=aw.new w1 #[.int .i64 dz.no,.int .i64 dz.dev,.int .i64 dz.kind,.int .i64 dz.mode,.int .i64 dz.uid,.int .i64 dz.gid,.int .i64 dz.mtime,.int .i64 dz.ctime,.int .i64 dz.ao,.int .i64 dz.up,.string dz.data,.slice da dl dc] 149;have oA:=(HE.o.ak av).ak ((Below.refl _ w1).alloc (aa _) (.cells #[.int .i64 dz.no,.int .i64 dz.dev,.int .i64 dz.kind,.int .i64 dz.mode,.int .i64 dz.uid,.int .i64 dz.gid,.int .i64 dz.mtime,.int .i64 dz.ctime,.int .i64 dz.ao,.int .i64 dz.up,.string dz.data,.slice da dl dc] 149));have Jm:w.heap.size≤w1.heap.size:=(au bP.o av).size;go_upto_region 2 with fail;generalize w1.alloc _=X at hbb BC oA⊢;generalize w1.heap.size=D at BC Jm⊢;have iX:=Qf hbb;have HX:=Qf (ag BC oA);clear av hbb BC oA;go_wp2_with fail;refine(HG.o _ iX.o).mono ?_;rintro e w2 ⟨rfl,aS⟩;have lJ:=(HX.o.1.ak aS).old (.cells #[.int .i64 n.no,.int .i64 n.dev,.int .i64 n.kind,.int .i64 n.mode,.int .i64 n.uid,.int .i64 n.gid,.int .i64 n.mtime,.int .i64 n.ctime,.int .i64 n.ao,.int .i64 n.up,.string n.data,.slice na nl nc] 149);have l5:=(HX.o.2.ak aS).ak ((Below.refl _ w2).alloc (aa _) (.cells #[.int .i64 n.no,.int .i64 n.dev,.int .i64 n.kind,.int .i64 n.mode,.int .i64 n.uid,.int .i64 n.gid,.int .i64 n.mtime,.int .i64 n.ctime,.int .i64 n.ao,.int .i64 n.up,.string n.data,.slice na nl nc] 149));have bK:=aq (au iX.o aS) (.cells #[.int .i64 n.no,.int .i64 n.dev,.int .i64 n.kind,.int .i64 n.mode,.int .i64 n.uid,.int .i64 n.gid,.int .i64 n.mtime,.int .i64 n.ctime,.int .i64 n.ao,.int .i64 n.up,.string n.data,.slice na nl nc] 149);have ox:=aw.new w2 #[.int .i64 n.no,.int .i64 n.dev,.int .i64 n.kind,.int .i64 n.mode,.int .i64 n.uid,.int .i64 n.gid,.int .i64 n.mtime,.int .i64 n.ctime,.int .i64 n.ao,.int .i64 n.up,.string n.data,.slice na nl nc] 149;have hN0:w.heap.size≤w2.heap.size:=(au iX.o aS).size;have hDN:D<w2.heap.size:=Nat.lt_of_lt_of_le HX.o.1.lt aS.size;go_upto_region 3 with fail;generalize w2.alloc _=Z at lJ l5 bK ox⊢;generalize w2.heap.size=M at ox hN0 hDN⊢;have HZ:=Qf (ag lJ (ag l5 (ag bK ox)));have Mm:=Qf (od dz.ay da dl dc s Z l5);have qg:=Qf bK;obtain⟨dcc,dcf,dcz⟩:=lJ.facts;obtain⟨ncc,ncf,ncz⟩:=ox.facts;clear aS lJ l5 bK ox;by_cases h1:n.kind=1
   ·have HQ:=Qf (nM.o.trans (if_pos h1));have q1:(n.kind==1)=true:=by simpa using h1
    clear h1;go_wp2_with fail;go_ret;rw[HQ.o];exact⟨rfl,jS.o _ qg.o⟩
   ·have pN:=Qf (nM.o.trans (if_neg h1));have q1:(n.kind==1)=false:=by simpa using h1
    have HGd2:=Qf (HGd.o h1);clear h1;go_wp2_with fail;refine Mm.o.mono ?_;rintro e w4 ⟨rfl,cZ⟩;obtain⟨lJ,l5,bK,ox⟩:=HZ.o;have rC:=lJ.ak cZ;have BA:=ox.ak cZ;have AB:=l5.ak cZ;have hbw:=au bK cZ;have vH:=Qf (ag rC (ag BA (ag AB hbw)));clear dcc dcf dcz ncc ncf ncz;obtain⟨dcc,dcf,dcz⟩:=rC.facts;obtain⟨ncc,ncf,ncz⟩:=BA.facts;clear cZ lJ l5 bK ox rC BA AB hbw;by_cases h2:aF dz.ay s=0
    ·have sP:=Qf (pN.o.trans (if_neg (by simpa using h2)));have q2:(aF dz.ay s != 0)=false:=by simpa using h2
     clear h2;by_cases h3:n.dev=dz.dev
     ·have DX:=Qf (sP.o.trans (if_neg (by simpa using h3)));have q3:(n.dev != dz.dev)=false:=by simpa using h3
      clear h3;by_cases h4:1000≤n.ao
      ·have HQ:=Qf (DX.o.trans (if_pos h4));go_wp2_with fail;go_ret;rw[HQ.o];exact⟨rfl,jS.o _ vH.o.2.2.2⟩
      ·have HQ:=Qf (DX.o.trans (if_neg h4));obtain⟨rC,BA,AB,hbw⟩:=vH.o;have pc3:=(hbw.cell (p:=⟨pf,3,none⟩) pz).trans (pc 3);have Df:¬pf=M:=by omega
       have MC:¬M=pf:=by omega
       have hp3:¬D=M:=by omega
       have Kc:¬M=D:=by omega
       have hm:=((Mod.refl (fun k=>k=M) w4).setCell (a:=⟨M,8,none⟩) (.inl rfl) (.int .i64 (n.ao+1))).setCell (a:=⟨M,7,none⟩) (.inl rfl) (.int .i64 now);have Om:=(BA.set 8 (.int .i64 (n.ao+1))).set 7 (.int .i64 now);have Ak:=rC.mod hm (by omega);have D6:=AB.fH (fun b cur hc=>hm.block b (Array.getElem?_eq_some_iff.1 hc).1 (fun e=>by
        subst e;unfold aw at BA;rw[BA] at hc;injection hc with hc;injection hc with _ hc;revert hc;decide)) hm.size
       have dX:=hm.below (B:=w.heap.size) (fun k hk=>by omega) hbw.size;have HY:=Qf (ag Ak (ag Om (ag D6 (hbw.trans dX))));clear rC BA AB hbw hm Om Ak D6 dX;go_upto_region 17 with fail;generalize (w4.setCell ⟨M,8,none⟩ (.int .i64 (n.ao+1))).setCell ⟨M,7,none⟩ (.int .i64 now)=Y at HY⊢;obtain⟨Ak,Om,D6,dX⟩:=HY.o;have HS:=Qf (ed.o Y dX);have lS:=Qf dX;have hhY:=HH.o.ak dX;clear dcc dcf dcz ncc ncf ncz pc3;obtain⟨ncc,ncf,ncz⟩:=Om.facts;clear Om dX;go_wp2_with fail;refine HS.o.mono ?_;rintro e w6 ⟨rfl,R6,Kg,ve,O8,-⟩;have hd6:=Ak.mod ve.mod (HF.o D Jm);have F4:=D6.rf hhY ve;have JQ:=Qf (ag Kg (ag ((aR.ar lS.o).trans ve) O8));obtain⟨dcc,dcf,dcz⟩:=hd6.facts;have Kw:=Qf (wM dz.ay da dl dc s no w6 F4 (by omega));clear Kg ve O8 hd6 F4 Ak D6 hhY ncc ncf ncz;go_wp2_with fail;refine Kw.o.mono ?_;rintro e w7 ⟨⟨a7,n7,c7,rfl,hE7⟩,jJ⟩;have D9:=Qf (qF (JQ.o.1.ak jJ) pP.o dir HGd2.o hE7);rw[JQ.o.2.2.now,vM.o] at D9;have uu:=Qf jJ;clear hE7 jJ dcc dcf dcz;go_wp2_with fail;refine D9.o.mono ?_;rintro e w8 ⟨rfl,R8,MP,Av,hL8⟩;have HR8:=Qf (ag MP (ag ((JQ.o.2.1.trans (aR.ar uu.o)).trans Av) (JQ.o.2.2.trans hL8)));clear MP Av hL8;go_wp2_with fail;go_ret;rw[HQ.o];exact⟨rfl,R8,HR8.o⟩
     ·have HQ:=Qf (sP.o.trans (if_pos (by simpa using h3)));have q3:(n.dev != dz.dev)=true:=by simpa using h3
      clear h3;go_wp2_with fail;go_ret;rw[HQ.o];exact⟨rfl,jS.o _ vH.o.2.2.2⟩
    ·have HQ:=Qf (pN.o.trans (if_pos (by simpa using h2)));have q2:(aF dz.ay s != 0)=true:=by simpa using h2
     clear h2;go_wp2_with fail;go_ret;rw[HQ.o];exact⟨rfl,jS.o _ vH.o.2.2.2⟩
 ·have HQ:=Qf (show S.ez bM R.now no dir s=(S,S.aP bM dir s) by unfold Fs.ez;rw[if_pos hpe]);generalize S.aP bM dir s=pe at HQ HP hpe;have hpb:(pe != 0)=true:=by simpa using hpe
  unfold An.v at HP HG;generalize S.bl no=nd at HG Lx;clear h hk hkeep cH hE hdz hP hG hnz hpe Lx;go_enter Tryz.func137,Tryz.ntmps137;go_wp2_with fail;refine HP.o.mono ?_;rintro e w1 ⟨rfl,av⟩;have hbb:=aq (au bP.o av) (.cells #[.int .i64 dz.no,.int .i64 dz.dev,.int .i64 dz.kind,.int .i64 dz.mode,.int .i64 dz.uid,.int .i64 dz.gid,.int .i64 dz.mtime,.int .i64 dz.ctime,.int .i64 dz.ao,.int .i64 dz.up,.string dz.data,.slice da dl dc] 149);have iX:=Qf hbb;clear av hbb;go_wp2_with fail;refine(HG.o _ iX.o).mono ?_;rintro e w2 ⟨rfl,aS⟩;have dS:=Qf (aq (au iX.o aS) (.cells #[.int .i64 nd.no,.int .i64 nd.dev,.int .i64 nd.kind,.int .i64 nd.mode,.int .i64 nd.uid,.int .i64 nd.gid,.int .i64 nd.mtime,.int .i64 nd.ctime,.int .i64 nd.ao,.int .i64 nd.up,.string nd.data,.slice na nl nc] 149));clear aS;go_wp2_with fail;go_ret;rw[HQ.o];exact⟨rfl,jS.o _ dS.o⟩
end
end
section
open Go.RowKit
def lenV:Value→Nat | .slice _ n _=>n|_=>0
section
variable{w w':World}{pf:Nat}{R:Rf}{S:Fs}
end
end
section
open Go.RowKit
structure KG(p:List UInt8):Prop where
 ne:p≠[]
 n1:p≠[46]
 n2:p≠[46,46]
 no:∀x∈p,x≠47
 chk:cx (str p)=0
def pthL(ns:List (List UInt8)):List UInt8:=47::Lib.join ns [47]
def pth(ns:List (List UInt8)):ByteArray:=str (pthL ns)
def OrdR(a b:List (List UInt8)):Prop:=a≠b∧∀p x y,a=p++[x]→b=p++[y]→Op.bytesLess x y=true
structure OrdSt(S:Fs)(vis:List (List (List UInt8)×An))(td:List (List (List UInt8)×Int)):Prop where
 vgood:∀y∈vis,∀p∈y.1,KG p
 tgood:∀y∈td,∀p∈y.1,KG p
 par:∀(i:Nat) (y:List (List UInt8)×An),vis[i]?=some y→∀p x,y.1=p++[x]→∃(k:Nat) (z:List (List UInt8)×An),k<i∧vis[k]?=some z∧z.1=p∧z.2.kind=1
 tpar:∀y∈td,∀p x,y.1=p++[x]→∃z∈vis,z.1=p∧z.2.kind=1
 ord:(vis.map (·.1)++td.map (·.1)).Pairwise OrdR
 get:∀y∈vis,S.get y.2.no=some y.2
def kidsN(ns:List (List UInt8))(n:An):List (List (List UInt8)×Int):=n.ay.map fun e=>(ns++[e.name.data.toList],e.no)
end
section
open Go.RowKit
inductive Way (S:Fs):List (List UInt8)→Int→Prop
 |top:Way S [] 1
 |down {ns:List (List UInt8)} {d:Int} {a:An} {e:En} (h:Way S ns d) (hg:S.get d=some a) (he:e∈a.ay):Way S (ns++[e.name.data.toList]) (S.aC e.no)
structure Grown(S:Fs)(N:Nat):Prop where
 ok:ax S N
 pl:Pl S
 tr:Tr S
 nm:Nm S
 wy:Wy S
section
variable{S:Fs}{N:Nat}
end
end
section
open Go.RowKit
def dm:ByteArray:=ByteArray.mk #[46,116,114,97,115,104,105,110,102,111]
def Fs.l9(S:Fs)(d:Bool)(c:Cr)(n:ByteArray):List Int→Bool×Int
 | []=>(false,0)
 |x::l=>if(S.bh d c x n).2=0 then(true,0) else if(S.bh d c x n).2≠5 then(false,(S.bh d c x n).2) else S.l9 d c n l
def Sy.B5(Y:Sy)(c:Cr)(info:Int)(text n:ByteArray):Sy×Int×Int:=Y.op (fun S now=>S.file c now info (n++dm) 384 text)
def Cn.three(x:Cn):List Int:=[x.files,x.jm,x.out]
def Sy.Fi(Y:Sy)(c:Cr)(x:Cn)(text:ByteArray):List ByteArray→Sy×ByteArray×Int
 | []=>(Y,ByteArray.empty,7)
 |n::l=>
  if(Y.fs.l9 Y.dead c n x.three).2≠0 then(Y,ByteArray.empty,(Y.fs.l9 Y.dead c n x.three).2)
  else if(Y.fs.l9 Y.dead c n x.three).1=true then Y.Fi c x text l
  else if(Y.B5 c x.info text n).2.2=7 then(Y.B5 c x.info text n).1.Fi c x text l
  else if(Y.B5 c x.info text n).2.2≠0 then((Y.B5 c x.info text n).1,ByteArray.empty,(Y.B5 c x.info text n).2.2)
  else((Y.B5 c x.info text n).1,n,0)
def KY(base:ByteArray):List ByteArray:=(List.range 1000).map fun k=>Fe base ((k:Nat)+1)
def Sy.N4(Y:Sy)(c:Cr)(x:Cn)(base text:ByteArray):Sy×ByteArray×Int:=Y.Fi c x text (KY base)
def Fs.Po(S:Fs)(d:Bool)(c:Cr)(dirs:List Int):List ByteArray→ByteArray×Int
 | []=>(ByteArray.empty,7)
 |n::l=>if(S.l9 d c n dirs).2≠0 then(ByteArray.empty,(S.l9 d c n dirs).2) else if(S.l9 d c n dirs).1=true then S.Po d c dirs l else(n,0)
structure eb(Y:Sy):Prop where
 bQ:Y.bQ=[]
 dead:Y.dead=false
theorem eb.op{Y:Sy}(h:eb Y)(g:Fs→Int→Fs×Int×Int):(Y.op g).2=(g Y.fs Y.now).2∧(Y.op g).1.fs=(g Y.fs Y.now).1∧eb (Y.op g).1∧(Y.op g).1.now=Y.now:=by
 have hc:Y.change=({Y with count:=Y.count+1},0):=by
  unfold Sy.change;rw[if_neg (by simp[h.dead]),h.bQ];rfl
 unfold Sy.op;rw[if_neg (by rw[hc];simp),hc];exact⟨rfl,rfl,⟨h.bQ,h.dead⟩,rfl⟩
end
section
open Go.RowKit
structure Ln where
 size:Int
 time:Int
 name:ByteArray
def Fs.jH(S:Fs)(N:Nat)(c:Cr)(x:Cn)(y:En):Option Ln:=
 if(S.bl y.no).kind=1∧(S.bh false c x.info (y.name++dm)).2=0∧(S.jB N false c x.files y.name).2=0 then some ⟨(S.jB N false c x.files y.name).1,(S.bl (S.bh false c x.info (y.name++dm)).1).mtime,y.name⟩ else none
def Fs.cK(S:Fs)(N:Nat)(d:Bool)(c:Cr)(x:Cn):List Ln×Int:=
 if(S.cp d c x.files).2≠0 then([],(S.cp d c x.files).2) else((S.cp d c x.files).1.filterMap (S.jH N c x),0)
theorem CG{l:List En}(h:gQ l){e:En}(he:e∈l):aF l e.name=e.no:=by
 unfold aF;have h1:l.find? (fun x=>decide (x.name=e.name))=some e:=by
  induction l with
  |nil=>cases he
  |cons y l ih=>
   rw[List.find?_cons];rcases List.mem_cons.1 he with rfl|he
   ·simp
   ·have h2:=List.pairwise_cons.1 h;have h3:=h2.1 e he;have:decide (y.name=e.name)=false:=by
     rw[decide_eq_false_iff_not];intro e2;rw[e2] at h3;have:=jG h3;rw[h3] at this
     cases this
    rw[this];exact ih h2.2 he
 rw[h1]
theorem qm{S:Fs}{N:Nat}{d:Bool}{c:Cr}{dir:Int}{n:ByteArray}(h:(S.jB N d c dir n).2=0):(S.bh d c dir n).2=0:=by
 unfold Fs.jB Fs.iD at h;by_cases h0:(S.bh d c dir n).2=0
 ·exact h0
 ·rw[if_pos h0] at h;exact absurd h h0
theorem C9{S:Fs}{N:Nat}(h:ax S N)(d:Bool)(c:Cr)(x:Cn):∀g∈(S.cK N d c x).1,
  (S.bh d c x.info (g.name++dm)).2=0∧(S.bh d c x.files g.name).2=0∧(S.bl (S.bh d c x.files g.name).1).kind=1∧S.jB N d c x.files g.name=(g.size,0):=by
 intro g hg;unfold Fs.cK at hg;by_cases h0:(S.cp d c x.files).2=0
 ·rw[if_neg (by simpa using h0)] at hg;have hd:d=false:=by
   cases d with
   |false=>rfl
   |true=>unfold Fs.cp at h0;rw[if_pos rfl] at h0;exact absurd h0 (by decide)
  subst hd;obtain⟨y,hy,hl⟩:=List.mem_filterMap.1 hg;unfold Fs.jH at hl
  split at hl
  ·rename_i hc;obtain⟨h1,h2,h3⟩:=hc;injection hl with hl;subst hl;refine⟨h2,qm h3,?_,?_⟩
   ·have h4:=qm h3;show(S.bl (S.bh false c x.files y.name).1).kind=1;unfold Fs.cp at hy;rw[if_neg (by decide)] at hy
    split at hy
    ·cases hy
    ·obtain⟨e,he,rfl⟩:=List.mem_map.1 hy;unfold Fs.bh at h4⊢;rw[if_neg (by decide)] at h4⊢
     split at h4
     ·rename_i h5;exact absurd h4 h5
     ·rename_i h5;rw[if_neg h5]
      split at h4
      ·exact absurd h4 (by decide)
      ·rename_i h6;rw[if_neg h6];have hr:gQ (S.bw x.files):=by
        unfold Fs.bw
        cases jQ:S.get x.files with
        |none=>exact List.Pairwise.nil
        |some a=>exact(h.get jQ).1.eE
       dsimp only;rw[CG hr he];exact h1
   ·show _=((S.jB N false c x.files y.name).1,(0:Int));rw[←h3]
  ·cases hl
 ·rw[if_pos h0] at hg
  cases hg
theorem Ac{S:Fs}{N:Nat}(h:ax S N)(d:Bool)(c:Cr)(x:Cn):(S.cK N d c x).1.Pairwise (fun a b=>fZ a.name b.name=true):=by
 unfold Fs.cK
 split
 ·exact List.Pairwise.nil
 ·dsimp only;have hr:(S.cp d c x.files).1.Pairwise (fun a b=>fZ a.name b.name=true):=by
   unfold Fs.cp
   split
   ·exact List.Pairwise.nil
   ·split
    ·exact List.Pairwise.nil
    ·rw[List.pairwise_map];show(S.bw x.files).Pairwise _;unfold Fs.bw
     cases jQ:S.get x.files with
     |none=>exact List.Pairwise.nil
     |some a=>exact(h.get jQ).1.eE
  refine List.Pairwise.filterMap _ (fun a b hab a' ha b' hb=>?_) hr;have e1:∀(y:En) (z:Ln),S.jH N c x y=some z→z.name=y.name:=fun y z hz=>by
   unfold Fs.jH at hz
   split at hz
   ·injection hz with hz;subst hz;rfl
   ·cases hz
  rw[e1 a a' ha,e1 b b' hb];exact hab
end
section
open Go.RowKit
theorem kK{E SE:TypeId}{sz by_:Nat}{z:Value}(hs:Tryz.prog.underlying SE=some (.slice E))(hinf:(Tryz.prog.info? E).map (fun i=>(i.zero,i.size,i.bytes))=some (some z,sz,by_))(hz:z.cells.size=sz)(hsz:0<sz)
  {w:World} {base n:Nat} {v:Value} {xs:List Value} (h:w.ownsRow base E sz v n xs) (cs:List Value) (hl:cs.length=sz) (h1:∀u∈cs,u.oneCell'=true) (hn:n≤1000000) (hby:by_≤1000) (hb:base≤w.heap.size) :
  ∃g cap W,(Builtin.append_ #[SE,SE] SE #[v,.slice (some ⟨w.heap.size,0,none⟩) 1 1]).run Tryz.prog (w.alloc (.cells cs.toArray E))=.ok (.slice (some ⟨g,0,none⟩) (n+1) cap) W∧
   W.ownsRow base E sz (.slice (some ⟨g,0,none⟩) (n+1) cap) (n+1) (xs++cs)∧Mod (fun k=>v.ownBlock=some k) w W∧(v.ownBlock=some g∨w.heap.size<g):=by
 obtain⟨i0,hi,jy,ee,et⟩:=info_parts hinf;have ho:=World.ownsRow.alloc h (.cells cs.toArray E);have hm:(n+1)*by_≤(1000000+1)*1000:=Nat.mul_le_mul (by omega) hby;obtain⟨g,cap,W,h1,h2,h3,h4⟩:=ei SE hs hi jy ee et hz hsz ho ⟨w.heap.size,0,none⟩ 1 1 cs (by omega) (World.news_of_block (aw.new w cs.toArray E)) h1 (by omega) (by unfold maxLen;omega) (by omega) (by rw[World.size_alloc];omega);exact⟨g,cap,W,h1,h2,((Mod.refl (fun j=>v.ownBlock=some j) w).alloc _).trans h3,h4.imp id (fun h=>by rw[h,World.size_alloc];omega)⟩
end
section
open Go.RowKit
theorem eP(u g:Int)(t:ByteArray)(w:World) :
  Calls Tryz.prog 13 #[.agg #[.int .i64 u,.int .i64 g,.string t]] w fun e w'=>e=.returned (.agg #[.int .i64 u,.int .i64 g])∧Qi w w':=by
 go_enter Tryz.func13,Tryz.ntmps13;go_wp2_with fail
 go_returns
 exact⟨rfl,by go_grown⟩
section
variable{w w':World}{pw:Nat}{R:Rp}{S:Fs}
theorem NJ(h:bm w pw R S)(k:Int):∃ea el ec b,∀w1,Qi w w1→
  Calls Tryz.prog 69 #[.pointer (some ⟨R.pt,0,none⟩),.int .i64 k] w1 fun e w'=>e=.returned (.tuple #[(S.bl k).v ea el ec,.bool b])∧Qi w1 w':=by
 obtain⟨a,ea,el,ec,b,-,-,hg,hc⟩:=Eo h k;have:S.bl k=a:=by
  rcases hg with⟨h1,-⟩|⟨h1,h2,-⟩
  ·exact dE h1
  ·rw[iB h1,h2]
 rw[this];exact⟨ea,el,ec,b,hc⟩
theorem CR(h:bm w pw R S){N:Nat}(hk:ax S N)(hN:N≤999999)(c:Cr)(dir:Int)(n:ByteArray) :
  Calls Tryz.prog 32 #[.pointer (some ⟨pw,0,none⟩),.agg #[.int .i64 c.u,.int .i64 c.g],.int .i64 dir,.string n] w fun e w'=>e=.returned (.tuple #[.int .i64 (S.bh false c dir n).1,.int .i64 (S.bh false c dir n).2])∧Qi w w':=by
 have HO:=Qf (fun w1 (av:Qi w w1)=>qX (h.ak av) hk c dir 1 1);have pO:=Qf (fun w1 (av:Qi w w1) k=>jA (h.ak av) hk.d1 k);have HK:=Qf hk;have HR:=Qf (show S.bh false c dir n=if S.dY c dir 1 1≠0 then(0,S.dY c dir 1 1) else if aF (S.bw dir) n=0 then(0,5) else(S.aC (aF (S.bw dir) n),0) by unfold Fs.bh;rw[if_neg (by decide)]);generalize S.bh false c dir n=rd at HR⊢;have hbc:=aq (Qj w) (.cells #[.int .i64 c.u,.int .i64 c.g] 64);clear h hk;go_enter Tryz.func32,Tryz.ntmps32;go_wp2_with fail;refine(HO.o _ hbc).mono ?_;rintro e w1 ⟨⟨h0,rfl⟩|⟨h0,d,ea,el,ec,hg,rfl,he⟩,av⟩
 ·have HB:=Qf (au hbc av);have HE:=Qf (HR.o.trans (if_pos h0));have Jt:(S.dY c dir 1 1 != 0)=true:=by simpa using h0
  generalize S.dY c dir 1 1=oe at HE Jt⊢;unfold An.v cS;clear h0 av hbc;go_wp2_with fail;go_ret2;rw[HE.o];exact⟨rfl,aq HB.o _⟩
 ·have aS:=au hbc av;have hen:S.bw dir=d.ay:=by
   unfold Fs.bw;rw[hg]
  have HE:=Qf (show rd=if aF d.ay n=0 then(0,5) else(S.aC (aF d.ay n),0) by rw[HR.o,if_neg (by simpa using h0),hen]);have hfew:el≤1000000:=by
   rw[←he.len];exact ae (HK.o.get hg).1.mJ (by omega)
  have HF:=Qf (fun w2 (aS:Qi w1 w2)=>fX d.ay ea el ec n w2 ((he.ak av).ak aS) (HK.o.get hg).1.eE hfew);obtain⟨hX,aI⟩:=Qh w1 #[.int .i64 d.no,.int .i64 d.dev,.int .i64 d.kind,.int .i64 d.mode,.int .i64 d.uid,.int .i64 d.gid,.int .i64 d.mtime,.int .i64 d.ctime,.int .i64 d.ao,.int .i64 d.up,.string d.data,.slice ea el ec] 149;have dS:=Qf aS;unfold An.v;clear h0 av hbc aS hen he hfew hg;go_upto_region 2 with fail;generalize w1.alloc _=X at hX aI⊢;have aW:=Qf aI;have vY:=Qf (dS.o.trans (aI.mono dS.o.size));obtain⟨xc,xf,xz⟩:=hX.facts;clear hX aI;generalize aF d.ay n=f at HE HF;go_wp2_with fail;refine(HF.o _ aW.o).mono ?_;rintro e w2 ⟨rfl,aS⟩;have fG:=Qf (au vY.o aS);clear aS xc xf xz;by_cases hf:f=0
  ·have eS:=Qf (HE.o.trans (if_pos hf));have gY:(f==0)=true:=by simpa using hf
   clear hf;go_wp2_with fail;go_ret2;rw[eS.o];exact⟨rfl,fG.o⟩
  ·have eS:=Qf (HE.o.trans (if_neg hf));have gY:(f==0)=false:=by simpa using hf
   clear hf;go_wp2_with fail;refine(pO.o _ fG.o _).mono ?_;rintro e w3 ⟨rfl,bK⟩;have uv:=Qf (au fG.o bK);clear bK;go_wp2_with fail;go_ret2;rw[eS.o];exact⟨rfl,uv.o⟩
end
section
variable{w w':World}{pf pw:Nat}{R:Rp}{pv:Value}{Y:Sy}
theorem iw(h:bg w pf pw R pv Y){N:Nat}(hk:ax Y.fs N)(hN:N≤999999)(c:Cr)(dir:Int)(n:ByteArray) :
  Calls Tryz.prog 12 #[.pointer (some ⟨pf,0,none⟩),.agg #[.int .i64 c.u,.int .i64 c.g],.int .i64 dir,.string n] w fun e w'=>e=.returned (.tuple #[.int .i64 (Y.fs.bh Y.dead c dir n).1,.int .i64 (Y.fs.bh Y.dead c dir n).2])∧Qi w w':=by
 obtain⟨gp,aI⟩:=Qh w #[.int .i64 c.u,.int .i64 c.g] 64;have HR:=Qf (fun w1 (av:Qi w w1)=>gx (h.ak av));have HS:=Qf (fun w1 (av:Qi w w1)=>CR (h.wd.ak av) hk hN c dir n);obtain⟨pc,-,pz⟩:=h.aZ.facts;have lP:=Qf (fun w1 (av:Qi w w1)=>show w1.cell? ⟨pf,0,none⟩=some (.pointer (some ⟨pw,0,none⟩)) from(av.cell (p:=⟨pf,0,none⟩) pz).trans (pc 0));have mixed:Tryz.prog.follows .mixedOrders=true:=by kernel_rfl
 clear h hk pc pz
 cases hd:Y.dead with
 |true=>
  rw[hd] at HR;clear hd HS;go_enter Tryz.func12,Tryz.ntmps12;go_wp2_with fail;refine(HR.o _ aI).mono ?_;rintro e w1 ⟨rfl,rfl⟩;have HB:=Qf aI;clear aI gp;go_wp2_with fail;go_ret2;exact⟨rfl,HB.o⟩
 |false=>
  rw[hd] at HR;generalize Y.fs.bh false c dir n=rd at HS⊢;clear hd;go_enter Tryz.func12,Tryz.ntmps12;go_wp2_with fail;refine(HR.o _ aI).mono ?_;rintro e w1 ⟨rfl,rfl⟩;generalize w.alloc _=W0 at gp aI⊢;have aW:=Qf aI;have pc0:=lP.o _ aI;obtain⟨cc,-,cz⟩:=gp.facts;clear gp aI;go_wp2_with fail;refine aG 7 mixed (by kernel_rfl) (show bL _ from by repeat (first|exact cG|refine cF ?_|refine bR ?_|refine cd ?_)) ?_;simp only[List.take_succ_cons,List.take_zero,List.drop_succ_cons,List.drop_zero]
  repeat still_step
  refine wpStill_nil ?_;go_wp2_with fail;refine(HS.o _ aW.o.drew).mono ?_;rintro e w1 ⟨rfl,av⟩;have HB:=Qf (aW.o.drew.trans (av.mono aW.o.size));clear av;go_wp2_with fail;go_ret2;exact⟨rfl,HB.o⟩
theorem yv(h:bg w pf pw R pv Y){N:Nat}(hk:ax Y.fs N)(hN:N≤999999)(u g:Int)(t:ByteArray)(dir:Int)(n:ByteArray) :
  Calls Tryz.prog 144 #[.pointer (some ⟨pf,0,none⟩),.agg #[.int .i64 u,.int .i64 g,.string t],.int .i64 dir,.string n] w fun e w'=>e=.returned (.tuple #[.int .i64 (Y.fs.fu Y.dead ⟨u,g⟩ dir n).1,.int .i64 (Y.fs.fu Y.dead ⟨u,g⟩ dir n).2])∧Qi w w':=by
 obtain⟨hX,aI⟩:=Qh w #[.int .i64 u,.int .i64 g,.string t] 27;have HC:=Qf (eP u g t);have HL:=Qf (fun w1 (av:Qi w w1)=>iw (h.ak av) hk hN ⟨u,g⟩ dir n);have HG:=Qf (fun w1 (av:Qi w w1) k=>NJ (h.wd.ak av) k);obtain⟨pc,-,pz⟩:=h.aZ.facts;obtain⟨qc,-,qz⟩:=h.wd.aZ.facts;have lP:=Qf (fun w1 (av:Qi w w1)=>show w1.cell? ⟨pf,0,none⟩=some (.pointer (some ⟨pw,0,none⟩))∧w1.cell? ⟨pw,0,none⟩=some (.pointer (some ⟨R.pt,0,none⟩)) from⟨(av.cell (p:=⟨pf,0,none⟩) pz).trans (pc 0),(av.cell (p:=⟨pw,0,none⟩) qz).trans (qc 0)⟩);obtain⟨S,hS⟩:∃S,Y.fs=S:=⟨_,rfl⟩;obtain⟨b,hd⟩:∃b,Y.dead=b:=⟨_,rfl⟩;rw[hS,hd] at HL;rw[hS] at HG;rw[hS,hd];have HR:=Qf (show S.fu b ⟨u,g⟩ dir n=if(S.bh b ⟨u,g⟩ dir n).2=5 then(0,0) else if(S.bh b ⟨u,g⟩ dir n).2≠0 then(0,(S.bh b ⟨u,g⟩ dir n).2) else KV ⟨u,g⟩ (S.bl (S.bh b ⟨u,g⟩ dir n).1) (S.bl dir) (S.bh b ⟨u,g⟩ dir n).1 from rfl);generalize S.fu b ⟨u,g⟩ dir n=rd at HR⊢;generalize S.bh b ⟨u,g⟩ dir n=r at HR HL;obtain⟨no,e1⟩:=r;dsimp only at HR HL;clear h hk hS hd pc pz qc qz;go_enter Tryz.func144,Tryz.ntmps144;go_upto_region 1 with fail;generalize w.alloc _=W0 at hX aI⊢;have HX:=Qf hX;have aW:=Qf aI;obtain⟨xc,xf,xz⟩:=hX.facts;clear hX aI;go_wp2_with fail;refine(HC.o _).mono ?_;rintro e w1 ⟨rfl,av⟩;have dO:=Qf (au aW.o av);have HX1:=Qf (HX.o.ak av);clear av xc xf xz;go_wp2_with fail;refine(HL.o _ dO.o).mono ?_;rintro e w2 ⟨rfl,aS⟩;have dS:=Qf (au dO.o aS);have A2:=Qf (HX1.o.ak aS);clear aS;by_cases h5:e1=5
 ·subst h5;have HE:=Qf (HR.o.trans (if_pos rfl));go_wp2_with fail;go_ret2;rw[HE.o];exact⟨rfl,dS.o⟩
 ·have h5':(e1==5)=false:=by simpa using h5
  by_cases h0:e1=0
  ·subst h0;have HE:=Qf (HR.o.trans ((if_neg (by decide)).trans (if_neg (by decide))));obtain⟨ea,el,ec,b1,hG1⟩:=HG.o _ dS.o no;have Nz:=Qf hG1;obtain⟨pc,qc⟩:=lP.o _ dS.o;unfold An.v at Nz;generalize S.bl no=x at HE Nz;clear hG1 h5 h5';go_wp2_with fail;refine(Nz.o _ (Below.refl _ _)).mono ?_;rintro e w3 ⟨rfl,bK⟩;have cZ:=aq (au dS.o bK) (.cells #[.int .i64 x.no,.int .i64 x.dev,.int .i64 x.kind,.int .i64 x.mode,.int .i64 x.uid,.int .i64 x.gid,.int .i64 x.mtime,.int .i64 x.ctime,.int .i64 x.ao,.int .i64 x.up,.string x.data,.slice ea el ec] 149);have Ly:=aw.new w3 #[.int .i64 x.no,.int .i64 x.dev,.int .i64 x.kind,.int .i64 x.mode,.int .i64 x.uid,.int .i64 x.gid,.int .i64 x.mtime,.int .i64 x.ctime,.int .i64 x.ao,.int .i64 x.up,.string x.data,.slice ea el ec] 149;have vd:=(A2.o.ak bK).old (.cells #[.int .i64 x.no,.int .i64 x.dev,.int .i64 x.kind,.int .i64 x.mode,.int .i64 x.uid,.int .i64 x.gid,.int .i64 x.mtime,.int .i64 x.ctime,.int .i64 x.ao,.int .i64 x.up,.string x.data,.slice ea el ec] 149);clear bK pc qc;go_upto_region 7 with fail;generalize w3.alloc _=W4 at cZ Ly vd⊢;have uv:=Qf cZ;have sR:=Qf Ly;have HX4:=Qf vd;obtain⟨fa,fl,fc,b2,O9⟩:=HG.o _ uv.o dir;have KD:=Qf O9;obtain⟨pc,qc⟩:=lP.o _ uv.o;unfold An.v at KD;generalize S.bl dir=y at HE KD;clear O9 cZ Ly vd;go_wp2_with fail;refine(KD.o _ (Below.refl _ _)).mono ?_;rintro e w5 ⟨rfl,bU⟩;have fo:=aq (au uv.o bU) (.cells #[.int .i64 y.no,.int .i64 y.dev,.int .i64 y.kind,.int .i64 y.mode,.int .i64 y.uid,.int .i64 y.gid,.int .i64 y.mtime,.int .i64 y.ctime,.int .i64 y.ao,.int .i64 y.up,.string y.data,.slice fa fl fc] 149);have LA:=aw.new w5 #[.int .i64 y.no,.int .i64 y.dev,.int .i64 y.kind,.int .i64 y.mode,.int .i64 y.uid,.int .i64 y.gid,.int .i64 y.mtime,.int .i64 y.ctime,.int .i64 y.ao,.int .i64 y.up,.string y.data,.slice fa fl fc] 149;have FX:=(sR.o.ak bU).old (.cells #[.int .i64 y.no,.int .i64 y.dev,.int .i64 y.kind,.int .i64 y.mode,.int .i64 y.uid,.int .i64 y.gid,.int .i64 y.mtime,.int .i64 y.ctime,.int .i64 y.ao,.int .i64 y.up,.string y.data,.slice fa fl fc] 149);have MK:=(HX4.o.ak bU).old (.cells #[.int .i64 y.no,.int .i64 y.dev,.int .i64 y.kind,.int .i64 y.mode,.int .i64 y.uid,.int .i64 y.gid,.int .i64 y.mtime,.int .i64 y.ctime,.int .i64 y.ao,.int .i64 y.up,.string y.data,.slice fa fl fc] 149);clear bU pc qc;go_upto_region 8 with fail;generalize w5.alloc _=W6 at fo LA FX MK⊢;have jx:=Qf fo;have HN6:=Qf FX;obtain⟨mc,mf,mz⟩:=LA.facts;obtain⟨nc,nf,nz⟩:=FX.facts;obtain⟨xc,xf,xz⟩:=MK.facts;clear fo LA FX MK;unfold KV at HE;by_cases h1:x.kind=1
   ·have oC:(x.kind != 1)=false:=by simpa using h1
    by_cases h2:x.dev=y.dev
    ·have kq:(x.dev != y.dev)=false:=by simpa using h2
     by_cases h3:x.uid=u
     ·have rH:(x.uid != u)=false:=by simpa using h3
      have bH:=Qf (HE.o.trans ((if_neg (by simpa using h1)).trans ((if_neg (by simpa using h2)).trans (if_neg (by simpa using h3)))));have mS:=Qf (fun w=>lz ⟨u,g⟩ x ea el ec 7 w);unfold Cr.v An.v at mS;generalize x.may ⟨u,g⟩ 7=m at bH mS;clear h1 h2 h3;go_wp2_with fail
      go_region_held3 (fun w'=>(∀b o,b<W6.heap.size→w'.cell? ⟨b,o,none⟩=W6.cell? ⟨b,o,none⟩)∧Qi W6 w') (first|with_reducible assumption|with_reducible exact dJ _|with_reducible exact cV _|with_reducible exact dg (by assumption) (by assumption)|with_reducible exact cO (by assumption) _|with_reducible exact cL (by assumption) _|with_reducible exact cq (by assumption) (by assumption)|with_reducible exact dI (by assumption) (by assumption))
       ((first
        |(go_at_call 13;((with_reducible refine(HC.o _).mono ?_);rintro e w7 ⟨rfl,jJ⟩))
        |(go_at_call 104;((with_reducible refine(mS.o _).mono ?_);rintro e w8 ⟨rfl,mQ⟩))))
      all_goals
       have hbz:Qi W6 w8:=And.right (by assumption);have qg:=Qf (au jx.o hbz);clear hbz
       cases m with
       |false=>
        have nO:=Qf (bH.o.trans (if_pos rfl));go_wp2_with fail;go_ret2;rw[nO.o];exact⟨rfl,qg.o⟩
       |true=>
        have nO:=Qf (bH.o.trans (if_neg (by decide)));go_wp2_with fail;go_ret2;rw[nO.o];exact⟨rfl,qg.o⟩
     ·have rH:(x.uid != u)=true:=by simpa using h3
      have bH:=Qf (HE.o.trans ((if_neg (by simpa using h1)).trans ((if_neg (by simpa using h2)).trans (if_pos h3))));clear h1 h2 h3;go_wp2_with fail;go_ret2;rw[bH.o];exact⟨rfl,jx.o⟩
    ·have kq:(x.dev != y.dev)=true:=by simpa using h2
     have bH:=Qf (HE.o.trans ((if_neg (by simpa using h1)).trans (if_pos h2)));clear h1 h2;go_wp2_with fail;go_ret2;rw[bH.o];exact⟨rfl,jx.o⟩
   ·have oC:(x.kind != 1)=true:=by simpa using h1
    have bH:=Qf (HE.o.trans (if_pos h1));clear h1;go_wp2_with fail;go_ret2;rw[bH.o];exact⟨rfl,jx.o⟩
  ·have Jt:(e1 != 0)=true:=by simpa using h0
   have HE:=Qf (HR.o.trans ((if_neg h5).trans (if_pos h0)));clear h0 h5;go_wp2_with fail;go_ret2;rw[HE.o];exact⟨rfl,dS.o⟩
end
end
end Go.Proofs.YtabbjaomlmnnhaaGreat
