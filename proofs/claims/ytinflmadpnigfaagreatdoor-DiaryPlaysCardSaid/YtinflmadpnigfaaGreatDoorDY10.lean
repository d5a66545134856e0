import Derived.Deep.CutBlock
import Derived.Deep.DeepCutAuto
import Derived.RegionTactic
import Derived.BigRegion
import Derived.Test.YtinflmadpnigfaaGreatDoorDY7
import Derived.Test.YtinflmadpnigfaaGreatDoorDY9
set_option linter.unusedVariables false
set_option linter.unusedSimpArgs false
set_option maxRecDepth 100000
set_option maxHeartbeats 16000000
namespace Go.Proofs.YtinflmadpnigfaaGreatDoor
section
open Go.RowKit
theorem mr{tmps:Array Value}{W:World}{B:Nat}{a:An}{ea:Option Addr}{el ec:Nat}{e:Int}(hb:au W B #[.int .i64 a.no,.int .i64 a.dev,.int .i64 a.kind,.int .i64 a.mode,.int .i64 a.uid,.int .i64 a.gid,.int .i64 a.mtime,.int .i64 a.ctime,.int .i64 a.an,.int .i64 a.up,.string a.data,.slice ea el ec] 99)
  (h8:tmps.getD 6 undef=.pointer (some ⟨B,0,none⟩)) (h9:tmps.getD 7 undef=.int .i64 e):(results Tryz.f213 tmps).run Tryz.prog W=.ok (.tuple #[a.v ea el ec,.int .i64 e]) W:=by
 obtain⟨q0,q1,q2,q3,q4,q5,q6,q7,q8,q9,q10,q11⟩:=hb.eX;rw[Array.getD_eq_getD_getElem?] at h8 h9;simp[results,Tryz.results213,go_sem,An.v,h8,h9,q0,q1,q2,q3,q4,q5,q6,q7,q8,q9,q10,q11]
def Fs.iM(S:Fs)(c:Cr)(no:Int):Int:=match S.get no with
 |none=>5
 |some n=>if j2 c n=false then 4 else 0
section
variable{w w':World}{pw:Nat}{R:Rp}{S:Fs}
theorem Jq(h:bh w pw R S){N:Nat}(hk:av S N)(c:Cr)(no:Int)(hg:S.get no=none) :
  Calls Tryz.prog 213 #[.pointer (some ⟨pw,0,none⟩),.agg #[.int .i64 c.u,.int .i64 c.g],.int .i64 no] w fun e w'=>e=.returned (.tuple #[dh.v none 0 0,.int .i64 5])∧Up w w':=by
 have j8:=Um (fun w1 (ar:Up w w1)=>fi (h.ak ar) hk.d1);have hnz:=hk.d1;generalize S.ds.length=n at j8 hnz;have hz:((n:Int)==0)=false:=by simp;omega
 have HG:=Um (fun w1 (ar:Up w w1)=>fN (h.ak ar) hg);obtain⟨pc,-,pz⟩:=h.bd.facts;unfold An.v dh at HG;clear h hk hg;go_enter Tryz.func213,Tryz.ntmps213;go_wp2_with fail;refine(j8.o _ (al (al (Below.refl _ _) _) _)).mono ?_;rintro e w1 ⟨rfl,rfl⟩;go_wp2_with fail;refine(HG.o _ (al (al (Below.refl _ _) _) _)).mono ?_;rintro e w1 ⟨rfl,ar⟩;have aD:=ao (al (al (Uq w) _) _) ar;have hR:au w1 (w.heap.size+1) #[.int .i64 0,.int .i64 0,.int .i64 0,.int .i64 0,.int .i64 0,.int .i64 0,.int .i64 0,.int .i64 0,.int .i64 0,.int .i64 0,.string ⟨#[]⟩,.slice none 0 0] 99:=by
  have:=((au.new (w.alloc (.cells #[.int .i64 c.u,.int .i64 c.g] 69)) #[.int .i64 0,.int .i64 0,.int .i64 0,.int .i64 0,.int .i64 0,.int .i64 0,.int .i64 0,.int .i64 0,.int .i64 0,.int .i64 0,.string ⟨#[]⟩,.slice none 0 0] 99).ak ar)
  rwa [World.size_alloc] at this
 have eF:=hR.eE (.cells #[.int .i64 0,.int .i64 0,.int .i64 0,.int .i64 0,.int .i64 0,.int .i64 0,.int .i64 0,.int .i64 0,.int .i64 0,.int .i64 0,.string ByteArray.empty,.slice none 0 0] 99);have ax:=al aD (.cells #[.int .i64 0,.int .i64 0,.int .i64 0,.int .i64 0,.int .i64 0,.int .i64 0,.int .i64 0,.int .i64 0,.int .i64 0,.int .i64 0,.string ByteArray.empty,.slice none 0 0] 99);clear hR ar aD pc;go_upto_region 4 with fail;generalize w1.alloc _=X at eF ax⊢;have gh:=Um eF;have aJ:=Um ax;obtain⟨rc,rf,rz⟩:=eF.facts;clear eF ax;go_wp2_with fail;exact bodyPost_ret (mr (a:=dh) gh.o.dR rfl rfl) rfl ⟨rfl,aM aJ.o (Nat.le_succ _)⟩
theorem Jp(h:bh w pw R S){N:Nat}(hk:av S N)(c:Cr)(no:Int)(d:An)(hg:S.get no=some d) :
  Calls Tryz.prog 213 #[.pointer (some ⟨pw,0,none⟩),.agg #[.int .i64 c.u,.int .i64 c.g],.int .i64 no] w fun e w'=>((j2 c d=false∧e=.returned (.tuple #[dh.v none 0 0,.int .i64 4]))∨(j2 c d=true∧∃ea el ec,e=.returned (.tuple #[d.v ea el ec,.int .i64 0])∧aA w ea el ec d.aB))∧Up w w':=by
 have j8:=Um (fun w1 (ar:Up w w1)=>fi (h.ak ar) hk.d1);have hnz:=hk.d1;generalize S.ds.length=n at j8 hnz;have hz:((n:Int)==0)=false:=by simp;omega
 obtain⟨ea,el,ec,he,hG⟩:=eA h hg;have HE:=Um he;have HG:=Um hG;unfold An.v at HG;have lM:=Um (fun w=>F2 c d ea el ec w);unfold Cr.v An.v at lM;obtain⟨pc,-,pz⟩:=h.bd.facts;generalize j2 c d=my at lM⊢;clear h hk hg he hG;go_enter Tryz.func213,Tryz.ntmps213;go_wp2_with fail;refine(j8.o _ (al (al (Below.refl _ _) _) _)).mono ?_;rintro e w1 ⟨rfl,rfl⟩;go_wp2_with fail;refine(HG.o _ (al (al (Below.refl _ _) _) _)).mono ?_;rintro e w1 ⟨rfl,ar⟩;have aD:=ao (al (al (Uq w) _) _) ar;have hR:au w1 (w.heap.size+1) #[.int .i64 0,.int .i64 0,.int .i64 0,.int .i64 0,.int .i64 0,.int .i64 0,.int .i64 0,.int .i64 0,.int .i64 0,.int .i64 0,.string ⟨#[]⟩,.slice none 0 0] 99:=by
  have:=((au.new (w.alloc (.cells #[.int .i64 c.u,.int .i64 c.g] 69)) #[.int .i64 0,.int .i64 0,.int .i64 0,.int .i64 0,.int .i64 0,.int .i64 0,.int .i64 0,.int .i64 0,.int .i64 0,.int .i64 0,.string ⟨#[]⟩,.slice none 0 0] 99).ak ar)
  rwa [World.size_alloc] at this
 have zt:au w1 w.heap.size #[.int .i64 c.u,.int .i64 c.g] 69:=((au.new w #[.int .i64 c.u,.int .i64 c.g] 69).eE (.cells #[.int .i64 0,.int .i64 0,.int .i64 0,.int .i64 0,.int .i64 0,.int .i64 0,.int .i64 0,.int .i64 0,.int .i64 0,.int .i64 0,.string ⟨#[]⟩,.slice none 0 0] 99)).ak ar;have eF:=hR.eE (.cells #[.int .i64 d.no,.int .i64 d.dev,.int .i64 d.kind,.int .i64 d.mode,.int .i64 d.uid,.int .i64 d.gid,.int .i64 d.mtime,.int .i64 d.ctime,.int .i64 d.an,.int .i64 d.up,.string d.data,.slice ea el ec] 99);have fy:=zt.eE (.cells #[.int .i64 d.no,.int .i64 d.dev,.int .i64 d.kind,.int .i64 d.mode,.int .i64 d.uid,.int .i64 d.gid,.int .i64 d.mtime,.int .i64 d.ctime,.int .i64 d.an,.int .i64 d.up,.string d.data,.slice ea el ec] 99);have gJ:=au.new w1 #[.int .i64 d.no,.int .i64 d.dev,.int .i64 d.kind,.int .i64 d.mode,.int .i64 d.uid,.int .i64 d.gid,.int .i64 d.mtime,.int .i64 d.ctime,.int .i64 d.an,.int .i64 d.up,.string d.data,.slice ea el ec] 99;have ax:=al aD (.cells #[.int .i64 d.no,.int .i64 d.dev,.int .i64 d.kind,.int .i64 d.mode,.int .i64 d.uid,.int .i64 d.gid,.int .i64 d.mtime,.int .i64 d.ctime,.int .i64 d.an,.int .i64 d.up,.string d.data,.slice ea el ec] 99);clear hR zt ar aD pc;go_upto_region 4 with fail;generalize w1.alloc _=X at eF fy gJ ax⊢;have gh:=Um eF;have aJ:=Um ax;have vJ:=Um gJ;have Oc:=Um fy;obtain⟨rc,rf,rz⟩:=eF.facts;obtain⟨dc,df,dz⟩:=gJ.facts;obtain⟨cc,-,-⟩:=fy.facts;clear eF ax gJ fy;go_wp2_with fail;refine(lM.o _).mono ?_;rintro e w5 ⟨rfl,b9⟩;have oO:=gh.o.ak b9;have sr:=vJ.o.ak b9;have ur:=aJ.o.trans (b9.mono aJ.o.size);have yY:=Um oO;have lF:=Um ur;clear rc rf rz dc df dz cc;obtain⟨rc,rf,rz⟩:=oO.facts;obtain⟨dc,-,-⟩:=sr.facts;clear oO ur b9 sr
 cases my
 ·go_wp2_with fail;exact bodyPost_ret (mr (a:=dh) yY.o.dR rfl rfl) rfl ⟨rfl,aM lF.o (Nat.le_succ _)⟩
 ·go_wp2_with fail;exact bodyPost_ret (mr (a:=d) (ea:=ea) (el:=el) (ec:=ec) yY.o.dR rfl rfl) rfl ⟨⟨ea,el,ec,rfl,HE.o⟩,aM lF.o (Nat.le_succ _)⟩
theorem yb(h:bh w pw R S){N:Nat}(hk:av S N)(c:Cr)(no:Int) :
  Calls Tryz.prog 213 #[.pointer (some ⟨pw,0,none⟩),.agg #[.int .i64 c.u,.int .i64 c.g],.int .i64 no] w fun e w'=>((S.iM c no≠0∧e=.returned (.tuple #[dh.v none 0 0,.int .i64 (S.iM c no)]))∨(S.iM c no=0∧∃d ea el ec,S.get no=some d∧e=.returned (.tuple #[d.v ea el ec,.int .i64 0])∧aA w ea el ec d.aB))∧Up w w':=by
 cases hg:S.get no with
 |none=>
  refine(Jq h hk c no hg).mono ?_;rintro e w1 ⟨rfl,hb⟩;have:S.iM c no=5:=by unfold Fs.iM;rw[hg]
  rw[this];exact⟨.inl ⟨by decide,rfl⟩,hb⟩
 |some d=>
  refine(Jp h hk c no d hg).mono ?_;rintro e w1 ⟨⟨h1,rfl⟩|⟨h1,ea,el,ec,h2,h3⟩,hb⟩
  ·have:S.iM c no=4:=by unfold Fs.iM;rw[hg];simp only;rw[if_pos h1]
   rw[this];exact⟨.inl ⟨by decide,rfl⟩,hb⟩
  ·have:S.iM c no=0:=by unfold Fs.iM;rw[hg];simp only;rw[if_neg (by simp[h1])]
   rw[this];exact⟨.inr ⟨rfl,d,ea,el,ec,rfl,h2,h3⟩,hb⟩
end
end
section
open Go.RowKit
section
variable{w w':World}{pw:Nat}{R:Rp}{S:Fs}
theorem tO{S:Fs}{c:Cr}{no:Int}{d:An}(h:S.iM c no=0)(hg:S.get no=some d):j2 c d=true:=by
 unfold Fs.iM at h;rw[hg] at h;simp only at h
 cases ho:j2 c d with
 |true=>rfl
 |false=>rw[ho] at h;simp at h
theorem KY{S:Fs}{c:Cr}{now no m:Int}(h:S.iM c no≠0):S.cL c now no m=(S,S.iM c no):=by
 unfold Fs.cL Fs.iM at *
 cases hg:S.get no with
 |none=>rfl
 |some d=>
  simp only[hg] at h⊢
  cases ho:j2 c d with
  |true=>rw[ho] at h;simp at h
  |false=>rfl
theorem KW{S:Fs}{c:Cr}{now no u g:Int}(h:S.iM c no≠0):S.cU c now no u g=(S,S.iM c no):=by
 unfold Fs.cU Fs.iM at *
 cases hg:S.get no with
 |none=>rfl
 |some d=>
  simp only[hg] at h⊢
  cases ho:j2 c d with
  |true=>rw[ho] at h;simp at h
  |false=>rfl
theorem IC{S:Fs}{c:Cr}{now no t:Int}(h:S.iM c no≠0):S.cQ c now no t=(S,S.iM c no):=by
 unfold Fs.cQ Fs.iM at *
 cases hg:S.get no with
 |none=>rfl
 |some d=>
  simp only[hg] at h⊢
  cases ho:j2 c d with
  |true=>rw[ho] at h;simp at h
  |false=>rfl
theorem JF(h:bh w pw R S){N:Nat}(hk:av S N)(c:Cr)(now no mode:Int) :
  Calls Tryz.prog 157 #[.pointer (some ⟨pw,0,none⟩),.agg #[.int .i64 c.u,.int .i64 c.g],.int .i64 now,.int .i64 no,.int .i64 mode] w fun e w'=>
   e=.returned (.int .i64 (S.cL c now no mode).2)∧∃R',bh w' pw R' (S.cL c now no mode).1∧aL (R.F pw) (R'.F pw) w w':=by
 have HO:=Um (fun w1 (ar:Up w w1)=>yb (h.ak ar) hk c no);have HW:=Um h;have mixed:Tryz.prog.follows .mixedOrders=true:=by kernel_rfl
 obtain⟨pc,-,pz⟩:=h.bd.facts;clear h hk;go_enter Tryz.func157,Tryz.ntmps157;go_wp2_with fail;refine(HO.o _ (al (Below.refl _ _) _)).mono ?_;clear HO;rintro e w1 ⟨⟨h0,rfl⟩|⟨h0,d,ea,el,ec,hg,rfl,he⟩,ar⟩
 ·have ax:=ao (al (Uq w) _) ar;have HB:=Um ax;have HC:=Um (KY (now:=now) (m:=mode) h0);have hz:(S.iM c no==0)=false:=by simpa using h0
  generalize S.iM c no=pe at HC hz⊢;unfold An.v dh;clear h0 ar ax pc;go_wp2_with fail;go_ret;rw[HC.o];exact⟨rfl,R,HW.o.ak (al HB.o _),aL.aq (al HB.o _)⟩
 ·have ax:=al ar (.cells #[.int .i64 d.no,.int .i64 d.dev,.int .i64 d.kind,.int .i64 d.mode,.int .i64 d.uid,.int .i64 d.gid,.int .i64 d.mtime,.int .i64 d.ctime,.int .i64 d.an,.int .i64 d.up,.string d.data,.slice ea el ec] 99);have fy:=((au.new w #[.int .i64 c.u,.int .i64 c.g] 69).ak ar).eE (.cells #[.int .i64 d.no,.int .i64 d.dev,.int .i64 d.kind,.int .i64 d.mode,.int .i64 d.uid,.int .i64 d.gid,.int .i64 d.mtime,.int .i64 d.ctime,.int .i64 d.an,.int .i64 d.up,.string d.data,.slice ea el ec] 99);have gJ:=au.new w1 #[.int .i64 d.no,.int .i64 d.dev,.int .i64 d.kind,.int .i64 d.mode,.int .i64 d.uid,.int .i64 d.gid,.int .i64 d.mtime,.int .i64 d.ctime,.int .i64 d.an,.int .i64 d.up,.string d.data,.slice ea el ec] 99;have hsz:=ar.size;have E0:=Um (tO h0 hg);have dW:=Um (fun w1 (ar:Below (w.alloc (.cells #[.int .i64 c.u,.int .i64 c.g] 69)).heap.size (w.alloc (.cells #[.int .i64 c.u,.int .i64 c.g] 69)) w1)=>(HW.o.ak (ao (al (Below.refl _ _) _) ar)).zY {d with mode:=mode,ctime:=now} (he.ak ar) (b:=d) (by rw[show({d with mode:=mode,ctime:=now}:An).no=d.no from rfl,dx hg];exact hg));have HG:=Um hg;unfold An.v at dW;unfold An.v;clear h0 ar he hg;go_upto_region 2 with fail;generalize w1.alloc _=X at ax fy gJ⊢;obtain⟨dc,df,dz⟩:=gJ.facts;obtain⟨cc,-,-⟩:=fy.facts;have Oc:=Um fy;have vJ:=Um gJ;have aJ:=Um ax;have vr:=Um pc;have Rg:=Um pz;clear fy gJ ax pc pz;by_cases h1:mode<0
  ·skip
   have HE:=Um (show S.cL c now no mode=(S,1) by unfold Fs.cL;rw[HG.o];simp only;rw[if_neg (by rw[E0.o];decide),if_pos (.inl h1)]);go_wp2_with fail;go_ret;rw[HE.o];exact⟨rfl,R,HW.o.ak (ao (al (Below.refl _ _) _) aJ.o),aL.aq (ao (al (Below.refl _ _) _) aJ.o)⟩
  by_cases h2:1023<mode
  ·skip
   have HE:=Um (show S.cL c now no mode=(S,1) by unfold Fs.cL;rw[HG.o];simp only;rw[if_neg (by rw[E0.o];decide),if_pos (.inr (.inl h2))]);go_wp2_with fail;go_ret;rw[HE.o];exact⟨rfl,R,HW.o.ak (ao (al (Below.refl _ _) _) aJ.o),aL.aq (ao (al (Below.refl _ _) _) aJ.o)⟩
  by_cases h3:d.kind=3
  ·have vF:(d.kind==3)=true:=by simpa using h3
   have HE:=Um (show S.cL c now no mode=(S,1) by unfold Fs.cL;rw[HG.o];simp only;rw[if_neg (by rw[E0.o];decide),if_pos (.inr (.inr h3))]);clear h3;go_wp2_with fail;go_ret;rw[HE.o];exact⟨rfl,R,HW.o.ak (ao (al (Below.refl _ _) _) aJ.o),aL.aq (ao (al (Below.refl _ _) _) aJ.o)⟩
  have vF:(d.kind==3)=false:=by simpa using h3
  have HE:=Um (show S.cL c now no mode=(S.set {d with mode:=mode,ctime:=now},0) by unfold Fs.cL;rw[HG.o];simp only;rw[if_neg (by rw[E0.o];decide),if_neg (by omega)]);go_wp2_with fail;have jP:=((vJ.o.set 3 (.int .i64 mode)).set 7 (.int .i64 now));have et:Below (w.alloc (.cells #[.int .i64 c.u,.int .i64 c.g] 69)).heap.size (w.alloc (.cells #[.int .i64 c.u,.int .i64 c.g] 69)) ((X.setCell ⟨w1.heap.size,3,none⟩ (.int .i64 mode)).setCell ⟨w1.heap.size,7,none⟩ (.int .i64 now)):=((aJ.o.setCell hsz _).setCell hsz _);generalize ((X.setCell ⟨w1.heap.size,3,none⟩ (.int .i64 mode)).setCell ⟨w1.heap.size,7,none⟩ (.int .i64 now))=Y at jP et⊢;obtain⟨q0,q1,q2,q3,q4,q5,q6,q7,q8,q9,q10,q11⟩:=au.eX (x0:=.int .i64 d.no) jP;have pc0:Y.cell? ⟨pw,0,none⟩=some (.pointer (some ⟨R.pt,0,none⟩)):=((ao (al (Uq w) (.cells #[.int .i64 c.u,.int .i64 c.g] 69)) et).cell (p:=⟨pw,0,none⟩) Rg.o).trans (vr.o 0);have HS:=Um (dW.o _ et.drew);have HY:=Um et;clear jP et dc df dz
  try clear cc
  refine ay 5 mixed (by kernel_rfl) dQ ?_;simp only[List.take_succ_cons,List.take_zero,List.drop_succ_cons,List.drop_zero]
  repeat still_step
  refine wpStill_nil ?_;go_wp2_with fail;refine HS.o.mono ?_;rintro e w5 ⟨rfl,R',ev,fo,-,-⟩;have HR:=Um (ag ev fo);clear ev fo;go_wp2_with fail;go_ret;rw[HE.o];exact⟨rfl,R',HR.o.1,(aL.aq (ao (al (Below.refl _ _) _) HY.o.drew)).trans HR.o.2⟩
theorem Gc(h:bh w pw R S){N:Nat}(hk:av S N)(c:Cr)(now no u g:Int) :
  Calls Tryz.prog 156 #[.pointer (some ⟨pw,0,none⟩),.agg #[.int .i64 c.u,.int .i64 c.g],.int .i64 now,.int .i64 no,.int .i64 u,.int .i64 g] w fun e w'=>
   e=.returned (.int .i64 (S.cU c now no u g).2)∧∃R',bh w' pw R' (S.cU c now no u g).1∧aL (R.F pw) (R'.F pw) w w':=by
 have HO:=Um (fun w1 (ar:Up w w1)=>yb (h.ak ar) hk c no);have HW:=Um h;have mixed:Tryz.prog.follows .mixedOrders=true:=by kernel_rfl
 obtain⟨pc,-,pz⟩:=h.bd.facts;clear h hk;go_enter Tryz.func156,Tryz.ntmps156;go_wp2_with fail;refine(HO.o _ (al (Below.refl _ _) _)).mono ?_;clear HO;rintro e w1 ⟨⟨h0,rfl⟩|⟨h0,d,ea,el,ec,hg,rfl,he⟩,ar⟩
 ·have ax:=ao (al (Uq w) _) ar;have HB:=Um ax;have HC:=Um (KW (now:=now) (u:=u) (g:=g) h0);have hz:(S.iM c no==0)=false:=by simpa using h0
  generalize S.iM c no=pe at HC hz⊢;unfold An.v dh;clear h0 ar ax pc;go_wp2_with fail;go_ret;rw[HC.o];exact⟨rfl,R,HW.o.ak (al HB.o _),aL.aq (al HB.o _)⟩
 ·have ax:=al ar (.cells #[.int .i64 d.no,.int .i64 d.dev,.int .i64 d.kind,.int .i64 d.mode,.int .i64 d.uid,.int .i64 d.gid,.int .i64 d.mtime,.int .i64 d.ctime,.int .i64 d.an,.int .i64 d.up,.string d.data,.slice ea el ec] 99);have fy:=((au.new w #[.int .i64 c.u,.int .i64 c.g] 69).ak ar).eE (.cells #[.int .i64 d.no,.int .i64 d.dev,.int .i64 d.kind,.int .i64 d.mode,.int .i64 d.uid,.int .i64 d.gid,.int .i64 d.mtime,.int .i64 d.ctime,.int .i64 d.an,.int .i64 d.up,.string d.data,.slice ea el ec] 99);have gJ:=au.new w1 #[.int .i64 d.no,.int .i64 d.dev,.int .i64 d.kind,.int .i64 d.mode,.int .i64 d.uid,.int .i64 d.gid,.int .i64 d.mtime,.int .i64 d.ctime,.int .i64 d.an,.int .i64 d.up,.string d.data,.slice ea el ec] 99;have hsz:=ar.size;have E0:=Um (tO h0 hg);have dW:=Um (fun w1 (ar:Below (w.alloc (.cells #[.int .i64 c.u,.int .i64 c.g] 69)).heap.size (w.alloc (.cells #[.int .i64 c.u,.int .i64 c.g] 69)) w1)=>(HW.o.ak (ao (al (Below.refl _ _) _) ar)).zY {d with uid:=u,gid:=g,ctime:=now} (he.ak ar) (b:=d) (by rw[show({d with uid:=u,gid:=g,ctime:=now}:An).no=d.no from rfl,dx hg];exact hg));have HG:=Um hg;unfold An.v at dW;unfold An.v;clear h0 ar he hg;go_upto_region 2 with fail;generalize w1.alloc _=X at ax fy gJ⊢;obtain⟨dc,df,dz⟩:=gJ.facts;obtain⟨cc,-,-⟩:=fy.facts;have Oc:=Um fy;have vJ:=Um gJ;have aJ:=Um ax;have vr:=Um pc;have Rg:=Um pz;clear fy gJ ax pc pz;by_cases h1:c.u≠0
  ·have mH:(c.u != 0)=true:=by simpa using h1
   have HE:=Um (show S.cU c now no u g=(S,4) by unfold Fs.cU;rw[HG.o];simp only;rw[if_neg (by rw[E0.o];decide),if_pos h1]);clear h1;go_wp2_with fail;go_ret;rw[HE.o];exact⟨rfl,R,HW.o.ak (ao (al (Below.refl _ _) _) aJ.o),aL.aq (ao (al (Below.refl _ _) _) aJ.o)⟩
  have h1:c.u=0:=Decidable.not_not.1 h1;have mH:(c.u != 0)=false:=by simpa using h1
  have HF:=Um (fun w=>F8 u g w);by_cases h2:LI u g=false
  ·have kA:=h2;have HE:=Um (show S.cU c now no u g=(S,1) by unfold Fs.cU;rw[HG.o];simp only;rw[if_neg (by rw[E0.o];decide),if_neg (by simp[h1]),if_pos kA]);rw[kA] at HF;clear h1 h2 kA;go_wp2_with fail;refine(HF.o _).mono ?_;rintro e w5 ⟨rfl,b9⟩;have hZ:=Um (aJ.o.trans (b9.mono aJ.o.size));clear b9;go_wp2_with fail;go_ret;rw[HE.o];exact⟨rfl,R,HW.o.ak (ao (al (Below.refl _ _) _) hZ.o),aL.aq (ao (al (Below.refl _ _) _) hZ.o)⟩
  have HE:=Um (show S.cU c now no u g=(S.set {d with uid:=u,gid:=g,ctime:=now},0) by unfold Fs.cU;rw[HG.o];simp only;rw[if_neg (by rw[E0.o];decide),if_neg (by simp[h1]),if_neg h2]);have h2:LI u g=true:=by simpa using h2
  rw[h2] at HF;clear h1 h2;go_wp2_with fail;refine(HF.o _).mono ?_;rintro e w5 ⟨rfl,b9⟩;have hZ:=Um (aJ.o.trans (b9.mono aJ.o.size));have HD5:=Um (vJ.o.ak b9);have hD5:=HD5.o;clear dc df dz cc b9;obtain⟨dc,df,dz⟩:=hD5.facts;clear hD5;go_wp2_with fail;have jP:=(((HD5.o.set 4 (.int .i64 u)).set 5 (.int .i64 g)).set 7 (.int .i64 now));have et:Below (w.alloc (.cells #[.int .i64 c.u,.int .i64 c.g] 69)).heap.size (w.alloc (.cells #[.int .i64 c.u,.int .i64 c.g] 69)) (((w5.setCell ⟨w1.heap.size,4,none⟩ (.int .i64 u)).setCell ⟨w1.heap.size,5,none⟩ (.int .i64 g)).setCell ⟨w1.heap.size,7,none⟩ (.int .i64 now)):=(((hZ.o.setCell hsz _).setCell hsz _).setCell hsz _);generalize (((w5.setCell ⟨w1.heap.size,4,none⟩ (.int .i64 u)).setCell ⟨w1.heap.size,5,none⟩ (.int .i64 g)).setCell ⟨w1.heap.size,7,none⟩ (.int .i64 now))=Y at jP et⊢;obtain⟨q0,q1,q2,q3,q4,q5,q6,q7,q8,q9,q10,q11⟩:=au.eX (x0:=.int .i64 d.no) jP;have pc0:Y.cell? ⟨pw,0,none⟩=some (.pointer (some ⟨R.pt,0,none⟩)):=((ao (al (Uq w) (.cells #[.int .i64 c.u,.int .i64 c.g] 69)) et).cell (p:=⟨pw,0,none⟩) Rg.o).trans (vr.o 0);have HS:=Um (dW.o _ et.drew);have HY:=Um et;clear jP et dc df dz
  try clear cc
  refine ay 5 mixed (by kernel_rfl) dQ ?_;simp only[List.take_succ_cons,List.take_zero,List.drop_succ_cons,List.drop_zero]
  repeat still_step
  refine wpStill_nil ?_;go_wp2_with fail;refine HS.o.mono ?_;rintro e w5 ⟨rfl,R',ev,fo,-,-⟩;have HR:=Um (ag ev fo);clear ev fo;go_wp2_with fail;go_ret;rw[HE.o];exact⟨rfl,R',HR.o.1,(aL.aq (ao (al (Below.refl _ _) _) HY.o.drew)).trans HR.o.2⟩
theorem IJ(h:bh w pw R S){N:Nat}(hk:av S N)(c:Cr)(now no t:Int) :
  Calls Tryz.prog 158 #[.pointer (some ⟨pw,0,none⟩),.agg #[.int .i64 c.u,.int .i64 c.g],.int .i64 now,.int .i64 no,.int .i64 t] w fun e w'=>
   e=.returned (.int .i64 (S.cQ c now no t).2)∧∃R',bh w' pw R' (S.cQ c now no t).1∧aL (R.F pw) (R'.F pw) w w':=by
 have HO:=Um (fun w1 (ar:Up w w1)=>yb (h.ak ar) hk c no);have HW:=Um h;have mixed:Tryz.prog.follows .mixedOrders=true:=by kernel_rfl
 obtain⟨pc,-,pz⟩:=h.bd.facts;clear h hk;go_enter Tryz.func158,Tryz.ntmps158;go_wp2_with fail;refine(HO.o _ (al (Below.refl _ _) _)).mono ?_;clear HO;rintro e w1 ⟨⟨h0,rfl⟩|⟨h0,d,ea,el,ec,hg,rfl,he⟩,ar⟩
 ·have ax:=ao (al (Uq w) _) ar;have HB:=Um ax;have HC:=Um (IC (now:=now) (t:=t) h0);have hz:(S.iM c no==0)=false:=by simpa using h0
  generalize S.iM c no=pe at HC hz⊢;unfold An.v dh;clear h0 ar ax pc;go_wp2_with fail;go_ret;rw[HC.o];exact⟨rfl,R,HW.o.ak (al HB.o _),aL.aq (al HB.o _)⟩
 ·have ax:=al ar (.cells #[.int .i64 d.no,.int .i64 d.dev,.int .i64 d.kind,.int .i64 d.mode,.int .i64 d.uid,.int .i64 d.gid,.int .i64 d.mtime,.int .i64 d.ctime,.int .i64 d.an,.int .i64 d.up,.string d.data,.slice ea el ec] 99);have fy:=((au.new w #[.int .i64 c.u,.int .i64 c.g] 69).ak ar).eE (.cells #[.int .i64 d.no,.int .i64 d.dev,.int .i64 d.kind,.int .i64 d.mode,.int .i64 d.uid,.int .i64 d.gid,.int .i64 d.mtime,.int .i64 d.ctime,.int .i64 d.an,.int .i64 d.up,.string d.data,.slice ea el ec] 99);have gJ:=au.new w1 #[.int .i64 d.no,.int .i64 d.dev,.int .i64 d.kind,.int .i64 d.mode,.int .i64 d.uid,.int .i64 d.gid,.int .i64 d.mtime,.int .i64 d.ctime,.int .i64 d.an,.int .i64 d.up,.string d.data,.slice ea el ec] 99;have hsz:=ar.size;have E0:=Um (tO h0 hg);have dW:=Um (fun w1 (ar:Below (w.alloc (.cells #[.int .i64 c.u,.int .i64 c.g] 69)).heap.size (w.alloc (.cells #[.int .i64 c.u,.int .i64 c.g] 69)) w1)=>(HW.o.ak (ao (al (Below.refl _ _) _) ar)).zY {d with mtime:=t,ctime:=now} (he.ak ar) (b:=d) (by rw[show({d with mtime:=t,ctime:=now}:An).no=d.no from rfl,dx hg];exact hg));have HG:=Um hg;unfold An.v at dW;unfold An.v;clear h0 ar he hg;go_upto_region 2 with fail;generalize w1.alloc _=X at ax fy gJ⊢;obtain⟨dc,df,dz⟩:=gJ.facts;obtain⟨cc,-,-⟩:=fy.facts;have Oc:=Um fy;have vJ:=Um gJ;have aJ:=Um ax;have vr:=Um pc;have Rg:=Um pz;clear fy gJ ax pc pz;by_cases h1:t<0
  ·skip
   have HE:=Um (show S.cQ c now no t=(S,1) by unfold Fs.cQ;rw[HG.o];simp only;rw[if_neg (by rw[E0.o];decide),if_pos (.inl h1)]);go_wp2_with fail;go_ret;rw[HE.o];exact⟨rfl,R,HW.o.ak (ao (al (Below.refl _ _) _) aJ.o),aL.aq (ao (al (Below.refl _ _) _) aJ.o)⟩
  by_cases h2:253402300799<t
  ·skip
   have HE:=Um (show S.cQ c now no t=(S,1) by unfold Fs.cQ;rw[HG.o];simp only;rw[if_neg (by rw[E0.o];decide),if_pos (.inr h2)]);go_wp2_with fail;go_ret;rw[HE.o];exact⟨rfl,R,HW.o.ak (ao (al (Below.refl _ _) _) aJ.o),aL.aq (ao (al (Below.refl _ _) _) aJ.o)⟩
  have HE:=Um (show S.cQ c now no t=(S.set {d with mtime:=t,ctime:=now},0) by unfold Fs.cQ;rw[HG.o];simp only;rw[if_neg (by rw[E0.o];decide),if_neg (by omega)]);go_wp2_with fail;have jP:=((vJ.o.set 6 (.int .i64 t)).set 7 (.int .i64 now));have et:Below (w.alloc (.cells #[.int .i64 c.u,.int .i64 c.g] 69)).heap.size (w.alloc (.cells #[.int .i64 c.u,.int .i64 c.g] 69)) ((X.setCell ⟨w1.heap.size,6,none⟩ (.int .i64 t)).setCell ⟨w1.heap.size,7,none⟩ (.int .i64 now)):=((aJ.o.setCell hsz _).setCell hsz _);generalize ((X.setCell ⟨w1.heap.size,6,none⟩ (.int .i64 t)).setCell ⟨w1.heap.size,7,none⟩ (.int .i64 now))=Y at jP et⊢;obtain⟨q0,q1,q2,q3,q4,q5,q6,q7,q8,q9,q10,q11⟩:=au.eX (x0:=.int .i64 d.no) jP;have pc0:Y.cell? ⟨pw,0,none⟩=some (.pointer (some ⟨R.pt,0,none⟩)):=((ao (al (Uq w) (.cells #[.int .i64 c.u,.int .i64 c.g] 69)) et).cell (p:=⟨pw,0,none⟩) Rg.o).trans (vr.o 0);have HS:=Um (dW.o _ et.drew);have HY:=Um et;clear jP et dc df dz
  try clear cc
  refine ay 5 mixed (by kernel_rfl) dQ ?_;simp only[List.take_succ_cons,List.take_zero,List.drop_succ_cons,List.drop_zero]
  repeat still_step
  refine wpStill_nil ?_;go_wp2_with fail;refine HS.o.mono ?_;rintro e w5 ⟨rfl,R',ev,fo,-,-⟩;have HR:=Um (ag ev fo);clear ev fo;go_wp2_with fail;go_ret;rw[HE.o];exact⟨rfl,R',HR.o.1,(aL.aq (ao (al (Below.refl _ _) _) HY.o.drew)).trans HR.o.2⟩
end
end
section
open Go.RowKit
section
variable{w w':World}{pw:Nat}{R:Rp}{S:Fs}
theorem NG(h:bh w pw R S){N:Nat}(hk:av S N)(hN:N≤999999)(c:Cr)(now dir:Int)(s:ByteArray)(hs:s.size≤9223372036854775807)(mode:Int) :
  Calls Tryz.prog 210 #[.pointer (some ⟨pw,0,none⟩),.agg #[.int .i64 c.u,.int .i64 c.g],.int .i64 now,.int .i64 dir,.string s,.int .i64 mode] w fun e w'=>
   e=.returned (.tuple #[.int .i64 (S.br c now dir s mode).2.1,.int .i64 (S.br c now dir s mode).2.2])∧∃R',bh w' pw R' (S.br c now dir s mode).1∧aL (R.F pw) (R'.F pw) w w':=by
 have HP:=Um (fun w1 (ar:Up w w1)=>xZ (h.ak ar) hk hN c now dir s hs {dh with kind:=1,mode:=mode,up:=dir} rfl (by show(0:Nat)≤_;omega));unfold An.v dh at HP;have HW:=Um h;clear h hk;by_cases h1:mode<0
 ·have HE:=Um (show S.br c now dir s mode=(S,0,1) by unfold Fs.br;rw[if_pos (.inl h1)]);go_enter Tryz.func210,Tryz.ntmps210;go_wp2_with fail;go_ret2;rw[HE.o];exact⟨rfl,R,HW.o.ak (by go_grown),aL.aq (by go_grown)⟩
 ·skip
  by_cases h2:1023<mode
  ·have HE:=Um (show S.br c now dir s mode=(S,0,1) by unfold Fs.br;rw[if_pos (.inr h2)]);go_enter Tryz.func210,Tryz.ntmps210;go_wp2_with fail;go_ret2;rw[HE.o];exact⟨rfl,R,HW.o.ak (by go_grown),aL.aq (by go_grown)⟩
  ·skip
   have HE:=Um (show S.br c now dir s mode=S.cS c now dir s {dh with kind:=1,mode:=mode,up:=dir} by unfold Fs.br;rw[if_neg (by omega)]);unfold dh at HE;go_enter Tryz.func210,Tryz.ntmps210;go_wp2_with fail;refine(HP.o _ (by first|exact Below.refl _ _|exact al (Below.refl _ _) _|exact al (al (Below.refl _ _) _) _)).mono ?_;rintro e w1 ⟨rfl,R1,ev,oN⟩;have ik:=Um (ag ev oN);clear ev oN HP;go_wp2_with fail;go_ret2;rw[HE.o];exact⟨rfl,R1,ik.o.1,(aL.aq (by go_grown)).trans ik.o.2⟩
theorem Ku(h:bh w pw R S){N:Nat}(hk:av S N)(hN:N≤999999)(c:Cr)(now dir:Int)(s:ByteArray)(hs:s.size≤9223372036854775807)(mode:Int)(data:ByteArray)(hd:data.size≤9223372036854775807) :
  Calls Tryz.prog 63 #[.pointer (some ⟨pw,0,none⟩),.agg #[.int .i64 c.u,.int .i64 c.g],.int .i64 now,.int .i64 dir,.string s,.int .i64 mode,.string data] w fun e w'=>
   e=.returned (.tuple #[.int .i64 (S.file c now dir s mode data).2.1,.int .i64 (S.file c now dir s mode data).2.2])∧∃R',bh w' pw R' (S.file c now dir s mode data).1∧aL (R.F pw) (R'.F pw) w w':=by
 have HP:=Um (fun w1 (ar:Up w w1)=>xZ (h.ak ar) hk hN c now dir s hs {dh with kind:=2,mode:=mode,data:=data} rfl (hd));unfold An.v dh at HP;have HW:=Um h;clear h hk;by_cases h1:mode<0
 ·have HE:=Um (show S.file c now dir s mode data=(S,0,1) by unfold Fs.file;rw[if_pos (.inl h1)]);go_enter Tryz.func63,Tryz.ntmps63;go_wp2_with fail;go_ret2;rw[HE.o];exact⟨rfl,R,HW.o.ak (by go_grown),aL.aq (by go_grown)⟩
 ·skip
  by_cases h2:1023<mode
  ·have HE:=Um (show S.file c now dir s mode data=(S,0,1) by unfold Fs.file;rw[if_pos (.inr h2)]);go_enter Tryz.func63,Tryz.ntmps63;go_wp2_with fail;go_ret2;rw[HE.o];exact⟨rfl,R,HW.o.ak (by go_grown),aL.aq (by go_grown)⟩
  ·skip
   by_cases h3:1048576<data.size
   ·have HE:=Um (show S.file c now dir s mode data=(S,0,3) by unfold Fs.file;rw[if_neg (by omega),if_pos h3]);have h3n:(1048576:Int)<(data.size:Int):=by omega
    go_enter Tryz.func63,Tryz.ntmps63;go_wp2_with fail;go_ret2;rw[HE.o];exact⟨rfl,R,HW.o.ak (by go_grown),aL.aq (by go_grown)⟩
   ·skip
    have h3n:¬(1048576:Int)<(data.size:Int):=by omega
    have HE:=Um (show S.file c now dir s mode data=S.cS c now dir s {dh with kind:=2,mode:=mode,data:=data} by unfold Fs.file;rw[if_neg (by omega),if_neg h3]);unfold dh at HE;go_enter Tryz.func63,Tryz.ntmps63;go_wp2_with fail;refine(HP.o _ (by first|exact Below.refl _ _|exact al (Below.refl _ _) _|exact al (al (Below.refl _ _) _) _)).mono ?_;rintro e w1 ⟨rfl,R1,ev,oN⟩;have ik:=Um (ag ev oN);clear ev oN HP;go_wp2_with fail;go_ret2;rw[HE.o];exact⟨rfl,R1,ik.o.1,(aL.aq (by go_grown)).trans ik.o.2⟩
theorem Mh(h:bh w pw R S){N:Nat}(hk:av S N)(hN:N≤999999)(c:Cr)(now dir:Int)(s:ByteArray)(hs:s.size≤9223372036854775807)(text:ByteArray)(hd:text.size≤9223372036854775807) :
  Calls Tryz.prog 211 #[.pointer (some ⟨pw,0,none⟩),.agg #[.int .i64 c.u,.int .i64 c.g],.int .i64 now,.int .i64 dir,.string s,.string text] w fun e w'=>
   e=.returned (.tuple #[.int .i64 (S.sym c now dir s text).2.1,.int .i64 (S.sym c now dir s text).2.2])∧∃R',bh w' pw R' (S.sym c now dir s text).1∧aL (R.F pw) (R'.F pw) w w':=by
 have HP:=Um (fun w1 (ar:Up w w1)=>xZ (h.ak ar) hk hN c now dir s hs {dh with kind:=3,mode:=511,data:=text} rfl (hd));unfold An.v dh at HP;have HW:=Um h;clear h hk;have H0:=Um (lA text);have hb:hasB text 0=decide ((0:UInt8)∈text.data.toList):=rfl;have bP:=Um hb.symm;clear hb;generalize hasB text 0=b0 at H0 bP;by_cases h1:text.toList=[]
 ·have HE:=Um (show S.sym c now dir s text=(S,0,1) by unfold Fs.sym;rw[if_pos (.inl (by rw[←aC];exact h1))]);go_enter Tryz.func211,Tryz.ntmps211;go_wp2_with (go_at_call 205;((with_reducible refine(H0.o _).mono ?_);rintro e w1 ⟨rfl,rfl⟩));go_ret2;rw[HE.o];exact⟨rfl,R,HW.o.ak (by go_grown),aL.aq (by go_grown)⟩
 ·skip
  have mH:text.toList.isEmpty=false:=by simpa using h1
  by_cases h2:b0=true
  ·have HE:=Um (show S.sym c now dir s text=(S,0,1) by unfold Fs.sym;rw[if_pos (.inr (of_decide_eq_true (bP.o.trans h2)))]);subst h2;go_enter Tryz.func211,Tryz.ntmps211;go_wp2_with (go_at_call 205;((with_reducible refine(H0.o _).mono ?_);rintro e w1 ⟨rfl,rfl⟩));go_ret2;rw[HE.o];exact⟨rfl,R,HW.o.ak (by go_grown),aL.aq (by go_grown)⟩
  ·skip
   have kA:b0=false:=by simpa using h2
   subst kA;by_cases h3:4096<text.size
   ·have HE:=Um (show S.sym c now dir s text=(S,0,13) by unfold Fs.sym;rw[if_neg (by rintro(h|h);exact h1 (by rw[aC];exact h);exact absurd (bP.o.symm.trans (decide_eq_true h)) (by decide)),if_pos h3]);have h3n:(4096:Int)<(text.size:Int):=by omega
    go_enter Tryz.func211,Tryz.ntmps211;go_wp2_with (go_at_call 205;((with_reducible refine(H0.o _).mono ?_);rintro e w1 ⟨rfl,rfl⟩));go_ret2;rw[HE.o];exact⟨rfl,R,HW.o.ak (by go_grown),aL.aq (by go_grown)⟩
   ·skip
    have h3n:¬(4096:Int)<(text.size:Int):=by omega
    have HE:=Um (show S.sym c now dir s text=S.cS c now dir s {dh with kind:=3,mode:=511,data:=text} by unfold Fs.sym;rw[if_neg (by rintro(h|h);exact h1 (by rw[aC];exact h);exact absurd (bP.o.symm.trans (decide_eq_true h)) (by decide)),if_neg h3]);unfold dh at HE;go_enter Tryz.func211,Tryz.ntmps211;go_wp2_with (go_at_call 205;((with_reducible refine(H0.o _).mono ?_);rintro e w1 ⟨rfl,rfl⟩));refine(HP.o _ (by first|exact Below.refl _ _|exact al (Below.refl _ _) _|exact al (al (Below.refl _ _) _) _)).mono ?_;rintro e w1 ⟨rfl,R1,ev,oN⟩;have ik:=Um (ag ev oN);clear ev oN HP;go_wp2_with fail;go_ret2;rw[HE.o];exact⟨rfl,R1,ik.o.1,(aL.aq (by go_grown)).trans ik.o.2⟩
end
end
section
open Go.RowKit
theorem eJ(Y:Sy):Y.change.1.fs=Y.fs∧Y.change.1.now=Y.now∧Y.change.1.bD=Y.bD:=by
 unfold Sy.change
 split
 ·exact⟨rfl,rfl,rfl⟩
 ·split<;>exact⟨rfl,rfl,rfl⟩
def Sy.op(Y:Sy)(g:Fs→Int→Fs×Int×Int):Sy×Int×Int:=
 if Y.change.2≠0 then(Y.change.1,0,Y.change.2) else({Y.change.1 with fs:=(g Y.fs Y.now).1},(g Y.fs Y.now).2)
def Sy.nt(Y:Sy)(g:Fs→Int→Fs×Int):Sy×Int:=
 if Y.change.2≠0 then(Y.change.1,Y.change.2) else({Y.change.1 with fs:=(g Y.fs Y.now).1},(g Y.fs Y.now).2)
section
variable{w w':World}{pf pw:Nat}{R:Rp}{pv:Value}{Y:Sy}
theorem tf(h:bK w pf pw R pv Y){N:Nat}(hk:av Y.fs N)(hN:N≤999999)(hc:0≤Y.count∧Y.count≤4611686018427387904)(hl:Y.bD.length≤1000000)(c:Cr)(dir:Int)(s:ByteArray)(mode:Int)(hs:s.size≤9223372036854775807) :
  Calls Tryz.prog 152 #[.pointer (some ⟨pf,0,none⟩),.agg #[.int .i64 c.u,.int .i64 c.g],.int .i64 dir,.string s,.int .i64 mode] w fun e w'=>
   e=.returned (.tuple #[.int .i64 (Y.op (fun S now=>S.br c now dir s mode)).2.1,.int .i64 (Y.op (fun S now=>S.br c now dir s mode)).2.2])∧∃R',bK w' pf pw R' pv (Y.op (fun S now=>S.br c now dir s mode)).1∧aL (R.Y pf pw) (R'.Y pf pw) w w':=by
 have HY:=Um h;have HC:=Um (fI (h.ak ((Below.refl _ w).alloc (aa _) (.cells #[.int .i64 c.u,.int .i64 c.g] 69))) hc hl);obtain⟨gd,iV,yy⟩:=eJ Y;have HF:=Um (ag gd iV);have hpf:=h.bd.lt;have gP:av Y.change.1.fs N:=by rw[gd];exact hk
 have mixed:Tryz.prog.follows .mixedOrders=true:=by kernel_rfl
 clear h hk gd iV yy;go_enter Tryz.func152,Tryz.ntmps152;go_wp2_with fail;refine HC.o.mono ?_;rintro e w1 ⟨rfl,eK,eR⟩;have qh:=Um ((im (aL.aq (F:=R.F pw) (al (Uq w) (.cells #[.int .i64 c.u,.int .i64 c.g] 69)))).trans (zR (pw:=pw) (R:=R) eR));by_cases h0:Y.change.2=0
 ·have nZ:(Y.change.2==0)=true:=by simpa using h0
  have HE:=Um (show Y.op (fun S now=>S.br c now dir s mode)=_ from if_neg (by simp[h0]));have hcr:=(au.new w #[.int .i64 c.u,.int .i64 c.g] 69).mod eR (by omega);obtain⟨cc,-,cz⟩:=hcr.facts;obtain⟨pc,-,pz⟩:=eK.bd.facts;have HD:=Um (NG (eK.wd.ak (Below.refl _ w1).drew) gP hN c Y.change.1.now dir s hs mode);have iR:=Um eK;clear h0 hcr eK eR;go_wp2_with fail;refine ay 12 mixed (by kernel_rfl) (show bV _ from by repeat (first|exact cZ|refine cY ?_|refine cw ?_|refine cJ ?_)) ?_;simp only[List.take_succ_cons,List.take_zero,List.drop_succ_cons,List.drop_zero]
  repeat still_step
  refine wpStill_nil ?_;go_wp2_with fail;refine HD.o.mono ?_;rintro e w5 ⟨rfl,R5,gQ,eu⟩;have yV:=Um ((iR.o.ak (Below.refl _ w1).drew).step gQ eu);have sv:=Um ((qh.o.trans (im (aL.aq (F:=R.F pw) (Below.refl _ w1).drew))).trans (im eu));clear gQ eu;go_wp2_with fail;go_ret2;rw[HE.o,HF.o.1.symm,HF.o.2.symm];exact⟨rfl,R5,yV.o,sv.o⟩
 ·have nZ:(Y.change.2==0)=false:=by simpa using h0
  have HE:=Um (show Y.op (fun S now=>S.br c now dir s mode)=_ from if_pos h0);have iR:=Um eK;clear eK h0 eR;generalize Y.change.2=ce at HE nZ⊢;go_wp2_with fail;go_ret2;rw[HE.o];exact⟨rfl,R,iR.o,qh.o⟩
theorem rI(h:bK w pf pw R pv Y){N:Nat}(hk:av Y.fs N)(hN:N≤999999)(hc:0≤Y.count∧Y.count≤4611686018427387904)(hl:Y.bD.length≤1000000)(c:Cr)(dir:Int)(s:ByteArray)(mode:Int)(data:ByteArray)(hs:s.size≤9223372036854775807)(hdata:data.size≤9223372036854775807) :
  Calls Tryz.prog 30 #[.pointer (some ⟨pf,0,none⟩),.agg #[.int .i64 c.u,.int .i64 c.g],.int .i64 dir,.string s,.int .i64 mode,.string data] w fun e w'=>
   e=.returned (.tuple #[.int .i64 (Y.op (fun S now=>S.file c now dir s mode data)).2.1,.int .i64 (Y.op (fun S now=>S.file c now dir s mode data)).2.2])∧∃R',bK w' pf pw R' pv (Y.op (fun S now=>S.file c now dir s mode data)).1∧aL (R.Y pf pw) (R'.Y pf pw) w w':=by
 have HY:=Um h;have HC:=Um (fI (h.ak ((Below.refl _ w).alloc (aa _) (.cells #[.int .i64 c.u,.int .i64 c.g] 69))) hc hl);obtain⟨gd,iV,yy⟩:=eJ Y;have HF:=Um (ag gd iV);have hpf:=h.bd.lt;have gP:av Y.change.1.fs N:=by rw[gd];exact hk
 have mixed:Tryz.prog.follows .mixedOrders=true:=by kernel_rfl
 clear h hk gd iV yy;go_enter Tryz.func30,Tryz.ntmps30;go_wp2_with fail;refine HC.o.mono ?_;rintro e w1 ⟨rfl,eK,eR⟩;have qh:=Um ((im (aL.aq (F:=R.F pw) (al (Uq w) (.cells #[.int .i64 c.u,.int .i64 c.g] 69)))).trans (zR (pw:=pw) (R:=R) eR));by_cases h0:Y.change.2=0
 ·have nZ:(Y.change.2==0)=true:=by simpa using h0
  have HE:=Um (show Y.op (fun S now=>S.file c now dir s mode data)=_ from if_neg (by simp[h0]));have hcr:=(au.new w #[.int .i64 c.u,.int .i64 c.g] 69).mod eR (by omega);obtain⟨cc,-,cz⟩:=hcr.facts;obtain⟨pc,-,pz⟩:=eK.bd.facts;have HD:=Um (Ku (eK.wd.ak (Below.refl _ w1).drew) gP hN c Y.change.1.now dir s hs mode data hdata);have iR:=Um eK;clear h0 hcr eK eR;go_wp2_with fail;refine ay 13 mixed (by kernel_rfl) (show bV _ from by repeat (first|exact cZ|refine cY ?_|refine cw ?_|refine cJ ?_)) ?_;simp only[List.take_succ_cons,List.take_zero,List.drop_succ_cons,List.drop_zero]
  repeat still_step
  refine wpStill_nil ?_;go_wp2_with fail;refine HD.o.mono ?_;rintro e w5 ⟨rfl,R5,gQ,eu⟩;have yV:=Um ((iR.o.ak (Below.refl _ w1).drew).step gQ eu);have sv:=Um ((qh.o.trans (im (aL.aq (F:=R.F pw) (Below.refl _ w1).drew))).trans (im eu));clear gQ eu;go_wp2_with fail;go_ret2;rw[HE.o,HF.o.1.symm,HF.o.2.symm];exact⟨rfl,R5,yV.o,sv.o⟩
 ·have nZ:(Y.change.2==0)=false:=by simpa using h0
  have HE:=Um (show Y.op (fun S now=>S.file c now dir s mode data)=_ from if_pos h0);have iR:=Um eK;clear eK h0 eR;generalize Y.change.2=ce at HE nZ⊢;go_wp2_with fail;go_ret2;rw[HE.o];exact⟨rfl,R,iR.o,qh.o⟩
theorem IS(h:bK w pf pw R pv Y){N:Nat}(hk:av Y.fs N)(hN:N≤999999)(hc:0≤Y.count∧Y.count≤4611686018427387904)(hl:Y.bD.length≤1000000)(c:Cr)(dir:Int)(s:ByteArray)(text:ByteArray)(hs:s.size≤9223372036854775807)(htext:text.size≤9223372036854775807) :
  Calls Tryz.prog 154 #[.pointer (some ⟨pf,0,none⟩),.agg #[.int .i64 c.u,.int .i64 c.g],.int .i64 dir,.string s,.string text] w fun e w'=>
   e=.returned (.tuple #[.int .i64 (Y.op (fun S now=>S.sym c now dir s text)).2.1,.int .i64 (Y.op (fun S now=>S.sym c now dir s text)).2.2])∧∃R',bK w' pf pw R' pv (Y.op (fun S now=>S.sym c now dir s text)).1∧aL (R.Y pf pw) (R'.Y pf pw) w w':=by
 have HY:=Um h;have HC:=Um (fI (h.ak ((Below.refl _ w).alloc (aa _) (.cells #[.int .i64 c.u,.int .i64 c.g] 69))) hc hl);obtain⟨gd,iV,yy⟩:=eJ Y;have HF:=Um (ag gd iV);have hpf:=h.bd.lt;have gP:av Y.change.1.fs N:=by rw[gd];exact hk
 have mixed:Tryz.prog.follows .mixedOrders=true:=by kernel_rfl
 clear h hk gd iV yy;go_enter Tryz.func154,Tryz.ntmps154;go_wp2_with fail;refine HC.o.mono ?_;rintro e w1 ⟨rfl,eK,eR⟩;have qh:=Um ((im (aL.aq (F:=R.F pw) (al (Uq w) (.cells #[.int .i64 c.u,.int .i64 c.g] 69)))).trans (zR (pw:=pw) (R:=R) eR));by_cases h0:Y.change.2=0
 ·have nZ:(Y.change.2==0)=true:=by simpa using h0
  have HE:=Um (show Y.op (fun S now=>S.sym c now dir s text)=_ from if_neg (by simp[h0]));have hcr:=(au.new w #[.int .i64 c.u,.int .i64 c.g] 69).mod eR (by omega);obtain⟨cc,-,cz⟩:=hcr.facts;obtain⟨pc,-,pz⟩:=eK.bd.facts;have HD:=Um (Mh (eK.wd.ak (Below.refl _ w1).drew) gP hN c Y.change.1.now dir s hs text htext);have iR:=Um eK;clear h0 hcr eK eR;go_wp2_with fail;refine ay 12 mixed (by kernel_rfl) (show bV _ from by repeat (first|exact cZ|refine cY ?_|refine cw ?_|refine cJ ?_)) ?_;simp only[List.take_succ_cons,List.take_zero,List.drop_succ_cons,List.drop_zero]
  repeat still_step
  refine wpStill_nil ?_;go_wp2_with fail;refine HD.o.mono ?_;rintro e w5 ⟨rfl,R5,gQ,eu⟩;have yV:=Um ((iR.o.ak (Below.refl _ w1).drew).step gQ eu);have sv:=Um ((qh.o.trans (im (aL.aq (F:=R.F pw) (Below.refl _ w1).drew))).trans (im eu));clear gQ eu;go_wp2_with fail;go_ret2;rw[HE.o,HF.o.1.symm,HF.o.2.symm];exact⟨rfl,R5,yV.o,sv.o⟩
 ·have nZ:(Y.change.2==0)=false:=by simpa using h0
  have HE:=Um (show Y.op (fun S now=>S.sym c now dir s text)=_ from if_pos h0);have iR:=Um eK;clear eK h0 eR;generalize Y.change.2=ce at HE nZ⊢;go_wp2_with fail;go_ret2;rw[HE.o];exact⟨rfl,R,iR.o,qh.o⟩
theorem Fx(h:bK w pf pw R pv Y){N:Nat}(hk:av Y.fs N)(hN:N≤999999)(hc:0≤Y.count∧Y.count≤4611686018427387904)(hl:Y.bD.length≤1000000)(c:Cr)(no:Int)(dir:Int)(s:ByteArray)(hs:s.size≤9223372036854775807) :
  Calls Tryz.prog 155 #[.pointer (some ⟨pf,0,none⟩),.agg #[.int .i64 c.u,.int .i64 c.g],.int .i64 no,.int .i64 dir,.string s] w fun e w'=>
   e=.returned (.int .i64 (Y.nt (fun S now=>S.eL c now no dir s)).2)∧∃R',bK w' pf pw R' pv (Y.nt (fun S now=>S.eL c now no dir s)).1∧aL (R.Y pf pw) (R'.Y pf pw) w w':=by
 have HY:=Um h;have HC:=Um (fI (h.ak ((Below.refl _ w).alloc (aa _) (.cells #[.int .i64 c.u,.int .i64 c.g] 69))) hc hl);obtain⟨gd,iV,yy⟩:=eJ Y;have HF:=Um (ag gd iV);have hpf:=h.bd.lt;have gP:av Y.change.1.fs N:=by rw[gd];exact hk
 have mixed:Tryz.prog.follows .mixedOrders=true:=by kernel_rfl
 clear h hk gd iV yy;go_enter Tryz.func155,Tryz.ntmps155;go_wp2_with fail;refine HC.o.mono ?_;rintro e w1 ⟨rfl,eK,eR⟩;have qh:=Um ((im (aL.aq (F:=R.F pw) (al (Uq w) (.cells #[.int .i64 c.u,.int .i64 c.g] 69)))).trans (zR (pw:=pw) (R:=R) eR));by_cases h0:Y.change.2=0
 ·have nZ:(Y.change.2==0)=true:=by simpa using h0
  have HE:=Um (show Y.nt (fun S now=>S.eL c now no dir s)=_ from if_neg (by simp[h0]));have hcr:=(au.new w #[.int .i64 c.u,.int .i64 c.g] 69).mod eR (by omega);obtain⟨cc,-,cz⟩:=hcr.facts;obtain⟨pc,-,pz⟩:=eK.bd.facts;have HD:=Um (Kh (eK.wd.ak (Below.refl _ w1).drew) gP hN c Y.change.1.now no dir s hs);have iR:=Um eK;clear h0 hcr eK eR;go_wp2_with fail;refine ay 12 mixed (by kernel_rfl) (show bV _ from by repeat (first|exact cZ|refine cY ?_|refine cw ?_|refine cJ ?_)) ?_;simp only[List.take_succ_cons,List.take_zero,List.drop_succ_cons,List.drop_zero]
  repeat still_step
  refine wpStill_nil ?_;go_wp2_with fail;refine HD.o.mono ?_;rintro e w5 ⟨rfl,R5,gQ,eu⟩;have yV:=Um ((iR.o.ak (Below.refl _ w1).drew).step gQ eu);have sv:=Um ((qh.o.trans (im (aL.aq (F:=R.F pw) (Below.refl _ w1).drew))).trans (im eu));clear gQ eu;go_wp2_with fail;go_ret;rw[HE.o,HF.o.1.symm,HF.o.2.symm];exact⟨rfl,R5,yV.o,sv.o⟩
 ·have nZ:(Y.change.2==0)=false:=by simpa using h0
  have HE:=Um (show Y.nt (fun S now=>S.eL c now no dir s)=_ from if_pos h0);have iR:=Um eK;clear eK h0 eR;generalize Y.change.2=ce at HE nZ⊢;go_wp2_with fail;go_ret;rw[HE.o];exact⟨rfl,R,iR.o,qh.o⟩
theorem CR(h:bK w pf pw R pv Y){N:Nat}(hk:av Y.fs N)(hN:N≤999999)(hc:0≤Y.count∧Y.count≤4611686018427387904)(hl:Y.bD.length≤1000000)(c:Cr)(no:Int)(mode:Int)  :
  Calls Tryz.prog 95 #[.pointer (some ⟨pf,0,none⟩),.agg #[.int .i64 c.u,.int .i64 c.g],.int .i64 no,.int .i64 mode] w fun e w'=>
   e=.returned (.int .i64 (Y.nt (fun S now=>S.cL c now no mode)).2)∧∃R',bK w' pf pw R' pv (Y.nt (fun S now=>S.cL c now no mode)).1∧aL (R.Y pf pw) (R'.Y pf pw) w w':=by
 have HY:=Um h;have HC:=Um (fI (h.ak ((Below.refl _ w).alloc (aa _) (.cells #[.int .i64 c.u,.int .i64 c.g] 69))) hc hl);obtain⟨gd,iV,yy⟩:=eJ Y;have HF:=Um (ag gd iV);have hpf:=h.bd.lt;have gP:av Y.change.1.fs N:=by rw[gd];exact hk
 have mixed:Tryz.prog.follows .mixedOrders=true:=by kernel_rfl
 clear h hk gd iV yy;go_enter Tryz.func95,Tryz.ntmps95;go_wp2_with fail;refine HC.o.mono ?_;rintro e w1 ⟨rfl,eK,eR⟩;have qh:=Um ((im (aL.aq (F:=R.F pw) (al (Uq w) (.cells #[.int .i64 c.u,.int .i64 c.g] 69)))).trans (zR (pw:=pw) (R:=R) eR));by_cases h0:Y.change.2=0
 ·have nZ:(Y.change.2==0)=true:=by simpa using h0
  have HE:=Um (show Y.nt (fun S now=>S.cL c now no mode)=_ from if_neg (by simp[h0]));have hcr:=(au.new w #[.int .i64 c.u,.int .i64 c.g] 69).mod eR (by omega);obtain⟨cc,-,cz⟩:=hcr.facts;obtain⟨pc,-,pz⟩:=eK.bd.facts;have HD:=Um (JF (eK.wd.ak (Below.refl _ w1).drew) gP c Y.change.1.now no mode);have iR:=Um eK;clear h0 hcr eK eR;go_wp2_with fail;refine ay 11 mixed (by kernel_rfl) (show bV _ from by repeat (first|exact cZ|refine cY ?_|refine cw ?_|refine cJ ?_)) ?_;simp only[List.take_succ_cons,List.take_zero,List.drop_succ_cons,List.drop_zero]
  repeat still_step
  refine wpStill_nil ?_;go_wp2_with fail;refine HD.o.mono ?_;rintro e w5 ⟨rfl,R5,gQ,eu⟩;have yV:=Um ((iR.o.ak (Below.refl _ w1).drew).step gQ eu);have sv:=Um ((qh.o.trans (im (aL.aq (F:=R.F pw) (Below.refl _ w1).drew))).trans (im eu));clear gQ eu;go_wp2_with fail;go_ret;rw[HE.o,HF.o.1.symm,HF.o.2.symm];exact⟨rfl,R5,yV.o,sv.o⟩
 ·have nZ:(Y.change.2==0)=false:=by simpa using h0
  have HE:=Um (show Y.nt (fun S now=>S.cL c now no mode)=_ from if_pos h0);have iR:=Um eK;clear eK h0 eR;generalize Y.change.2=ce at HE nZ⊢;go_wp2_with fail;go_ret;rw[HE.o];exact⟨rfl,R,iR.o,qh.o⟩
theorem CQ(h:bK w pf pw R pv Y){N:Nat}(hk:av Y.fs N)(hN:N≤999999)(hc:0≤Y.count∧Y.count≤4611686018427387904)(hl:Y.bD.length≤1000000)(c:Cr)(no:Int)(uid:Int)(gid:Int)  :
  Calls Tryz.prog 94 #[.pointer (some ⟨pf,0,none⟩),.agg #[.int .i64 c.u,.int .i64 c.g],.int .i64 no,.int .i64 uid,.int .i64 gid] w fun e w'=>
   e=.returned (.int .i64 (Y.nt (fun S now=>S.cU c now no uid gid)).2)∧∃R',bK w' pf pw R' pv (Y.nt (fun S now=>S.cU c now no uid gid)).1∧aL (R.Y pf pw) (R'.Y pf pw) w w':=by
 have HY:=Um h;have HC:=Um (fI (h.ak ((Below.refl _ w).alloc (aa _) (.cells #[.int .i64 c.u,.int .i64 c.g] 69))) hc hl);obtain⟨gd,iV,yy⟩:=eJ Y;have HF:=Um (ag gd iV);have hpf:=h.bd.lt;have gP:av Y.change.1.fs N:=by rw[gd];exact hk
 have mixed:Tryz.prog.follows .mixedOrders=true:=by kernel_rfl
 clear h hk gd iV yy;go_enter Tryz.func94,Tryz.ntmps94;go_wp2_with fail;refine HC.o.mono ?_;rintro e w1 ⟨rfl,eK,eR⟩;have qh:=Um ((im (aL.aq (F:=R.F pw) (al (Uq w) (.cells #[.int .i64 c.u,.int .i64 c.g] 69)))).trans (zR (pw:=pw) (R:=R) eR));by_cases h0:Y.change.2=0
 ·have nZ:(Y.change.2==0)=true:=by simpa using h0
  have HE:=Um (show Y.nt (fun S now=>S.cU c now no uid gid)=_ from if_neg (by simp[h0]));have hcr:=(au.new w #[.int .i64 c.u,.int .i64 c.g] 69).mod eR (by omega);obtain⟨cc,-,cz⟩:=hcr.facts;obtain⟨pc,-,pz⟩:=eK.bd.facts;have HD:=Um (Gc (eK.wd.ak (Below.refl _ w1).drew) gP c Y.change.1.now no uid gid);have iR:=Um eK;clear h0 hcr eK eR;go_wp2_with fail;refine ay 12 mixed (by kernel_rfl) (show bV _ from by repeat (first|exact cZ|refine cY ?_|refine cw ?_|refine cJ ?_)) ?_;simp only[List.take_succ_cons,List.take_zero,List.drop_succ_cons,List.drop_zero]
  repeat still_step
  refine wpStill_nil ?_;go_wp2_with fail;refine HD.o.mono ?_;rintro e w5 ⟨rfl,R5,gQ,eu⟩;have yV:=Um ((iR.o.ak (Below.refl _ w1).drew).step gQ eu);have sv:=Um ((qh.o.trans (im (aL.aq (F:=R.F pw) (Below.refl _ w1).drew))).trans (im eu));clear gQ eu;go_wp2_with fail;go_ret;rw[HE.o,HF.o.1.symm,HF.o.2.symm];exact⟨rfl,R5,yV.o,sv.o⟩
 ·have nZ:(Y.change.2==0)=false:=by simpa using h0
  have HE:=Um (show Y.nt (fun S now=>S.cU c now no uid gid)=_ from if_pos h0);have iR:=Um eK;clear eK h0 eR;generalize Y.change.2=ce at HE nZ⊢;go_wp2_with fail;go_ret;rw[HE.o];exact⟨rfl,R,iR.o,qh.o⟩
theorem CC(h:bK w pf pw R pv Y){N:Nat}(hk:av Y.fs N)(hN:N≤999999)(hc:0≤Y.count∧Y.count≤4611686018427387904)(hl:Y.bD.length≤1000000)(c:Cr)(no:Int)(t:Int)  :
  Calls Tryz.prog 96 #[.pointer (some ⟨pf,0,none⟩),.agg #[.int .i64 c.u,.int .i64 c.g],.int .i64 no,.int .i64 t] w fun e w'=>
   e=.returned (.int .i64 (Y.nt (fun S now=>S.cQ c now no t)).2)∧∃R',bK w' pf pw R' pv (Y.nt (fun S now=>S.cQ c now no t)).1∧aL (R.Y pf pw) (R'.Y pf pw) w w':=by
 have HY:=Um h;have HC:=Um (fI (h.ak ((Below.refl _ w).alloc (aa _) (.cells #[.int .i64 c.u,.int .i64 c.g] 69))) hc hl);obtain⟨gd,iV,yy⟩:=eJ Y;have HF:=Um (ag gd iV);have hpf:=h.bd.lt;have gP:av Y.change.1.fs N:=by rw[gd];exact hk
 have mixed:Tryz.prog.follows .mixedOrders=true:=by kernel_rfl
 clear h hk gd iV yy;go_enter Tryz.func96,Tryz.ntmps96;go_wp2_with fail;refine HC.o.mono ?_;rintro e w1 ⟨rfl,eK,eR⟩;have qh:=Um ((im (aL.aq (F:=R.F pw) (al (Uq w) (.cells #[.int .i64 c.u,.int .i64 c.g] 69)))).trans (zR (pw:=pw) (R:=R) eR));by_cases h0:Y.change.2=0
 ·have nZ:(Y.change.2==0)=true:=by simpa using h0
  have HE:=Um (show Y.nt (fun S now=>S.cQ c now no t)=_ from if_neg (by simp[h0]));have hcr:=(au.new w #[.int .i64 c.u,.int .i64 c.g] 69).mod eR (by omega);obtain⟨cc,-,cz⟩:=hcr.facts;obtain⟨pc,-,pz⟩:=eK.bd.facts;have HD:=Um (IJ (eK.wd.ak (Below.refl _ w1).drew) gP c Y.change.1.now no t);have iR:=Um eK;clear h0 hcr eK eR;go_wp2_with fail;refine ay 11 mixed (by kernel_rfl) (show bV _ from by repeat (first|exact cZ|refine cY ?_|refine cw ?_|refine cJ ?_)) ?_;simp only[List.take_succ_cons,List.take_zero,List.drop_succ_cons,List.drop_zero]
  repeat still_step
  refine wpStill_nil ?_;go_wp2_with fail;refine HD.o.mono ?_;rintro e w5 ⟨rfl,R5,gQ,eu⟩;have yV:=Um ((iR.o.ak (Below.refl _ w1).drew).step gQ eu);have sv:=Um ((qh.o.trans (im (aL.aq (F:=R.F pw) (Below.refl _ w1).drew))).trans (im eu));clear gQ eu;go_wp2_with fail;go_ret;rw[HE.o,HF.o.1.symm,HF.o.2.symm];exact⟨rfl,R5,yV.o,sv.o⟩
 ·have nZ:(Y.change.2==0)=false:=by simpa using h0
  have HE:=Um (show Y.nt (fun S now=>S.cQ c now no t)=_ from if_pos h0);have iR:=Um eK;clear eK h0 eR;generalize Y.change.2=ce at HE nZ⊢;go_wp2_with fail;go_ret;rw[HE.o];exact⟨rfl,R,iR.o,qh.o⟩
end
end
end Go.Proofs.YtinflmadpnigfaaGreatDoor
