import Derived.Deep.CutBlock
import Derived.Deep.DeepCutAuto
import Derived.RegionTactic
import Derived.BigRegion
import Derived.Test.YtinflmadpnigfaaGreatDoorDY7
import Derived.Test.YtinflmadpnigfaaGreatDoorDY10
set_option linter.unusedVariables false
set_option linter.unusedSimpArgs false
set_option maxRecDepth 100000
set_option maxHeartbeats 16000000
namespace Go.Proofs.YtinflmadpnigfaaGreatDoor
section
open Go.RowKit
def LH:Option An→Value
 |none=>.agg #[.int .i64 0,.int .i64 0,.int .i64 0,.int .i64 0,.int .i64 0,.int .i64 0,.int .i64 0,.int .i64 0,.int .i64 0,.int .i64 0]
 |some n=>.agg #[.int .i64 n.no,.int .i64 n.dev,.int .i64 n.kind,.int .i64 n.mode,.int .i64 n.uid,.int .i64 n.gid,.int .i64 n.an,.int .i64 n.data.size,.int .i64 n.mtime,.int .i64 n.ctime]
def rM:Option An→Int
 |none=>5
 |some _=>0
theorem au.Ef{w:World}{B:Nat}{x0 x1 x2 x3 x4 x5 x6 x7 x8 x9 v0 v1 v2 v3 v4 v5 v6 v7 v8 v9:Value}{T:TypeId}(h:au w B #[x0,x1,x2,x3,x4,x5,x6,x7,x8,x9] T):au ((((((((((w.setCell ⟨B,0,none⟩ v0).setCell ⟨B,1,none⟩ v1).setCell ⟨B,2,none⟩ v2).setCell ⟨B,3,none⟩ v3).setCell ⟨B,4,none⟩ v4).setCell ⟨B,5,none⟩ v5).setCell ⟨B,6,none⟩ v6).setCell ⟨B,7,none⟩ v7).setCell ⟨B,8,none⟩ v8).setCell ⟨B,9,none⟩ v9) B #[v0,v1,v2,v3,v4,v5,v6,v7,v8,v9] T:=
 au.row (xs:=[x0,x1,x2,x3,x4,x5,x6,x7,x8,x9]) (vs:=[v0,v1,v2,v3,v4,v5,v6,v7,v8,v9]) h rfl
theorem j5{N:Nat}{w0 w:World}{B:Nat}{v0 v1 v2 v3 v4 v5 v6 v7 v8 v9:Value}(h:Below N w0 w)(hB:N≤B):Below N w0 ((((((((((w.setCell ⟨B,0,none⟩ v0).setCell ⟨B,1,none⟩ v1).setCell ⟨B,2,none⟩ v2).setCell ⟨B,3,none⟩ v3).setCell ⟨B,4,none⟩ v4).setCell ⟨B,5,none⟩ v5).setCell ⟨B,6,none⟩ v6).setCell ⟨B,7,none⟩ v7).setCell ⟨B,8,none⟩ v8).setCell ⟨B,9,none⟩ v9):=
 rj hB [v0,v1,v2,v3,v4,v5,v6,v7,v8,v9] w 0 h
theorem pd{tmps:Array Value}{W:World}{B:Nat}{y0 y1 y2 y3 y4 y5 y6 y7 y8 y9 e:Int}(hb:au W B #[.int .i64 y0,.int .i64 y1,.int .i64 y2,.int .i64 y3,.int .i64 y4,.int .i64 y5,.int .i64 y6,.int .i64 y7,.int .i64 y8,.int .i64 y9] 91)
  (h8:tmps.getD 4 undef=.pointer (some ⟨B,0,none⟩)) (h9:tmps.getD 5 undef=.int .i64 e):(results Tryz.f73 tmps).run Tryz.prog W=.ok (.tuple #[.agg #[.int .i64 y0,.int .i64 y1,.int .i64 y2,.int .i64 y3,.int .i64 y4,.int .i64 y5,.int .i64 y6,.int .i64 y7,.int .i64 y8,.int .i64 y9],.int .i64 e]) W:=by
 have q0:=hb.cell 0;have q1:=hb.cell 1;have q2:=hb.cell 2;have q3:=hb.cell 3;have q4:=hb.cell 4;have q5:=hb.cell 5;have q6:=hb.cell 6;have q7:=hb.cell 7;have q8:=hb.cell 8;have q9:=hb.cell 9;rw[Array.getD_eq_getD_getElem?] at h8 h9;simp[results,Tryz.results73,go_sem,h8,h9,q0,q1,q2,q3,q4,q5,q6,q7,q8,q9]
theorem fR{tmps:Array Value}{W:World}{B:Nat}{a:An}{ea:Option Addr}{el ec:Nat}{e:Int}(hb:au W B #[.int .i64 a.no,.int .i64 a.dev,.int .i64 a.kind,.int .i64 a.mode,.int .i64 a.uid,.int .i64 a.gid,.int .i64 a.mtime,.int .i64 a.ctime,.int .i64 a.an,.int .i64 a.up,.string a.data,.slice ea el ec] 99)
  (h8:tmps.getD 10 undef=.pointer (some ⟨B,0,none⟩)) (h9:tmps.getD 11 undef=.int .i64 e):(results Tryz.f120 tmps).run Tryz.prog W=.ok (.tuple #[a.v ea el ec,.int .i64 e]) W:=by
 obtain⟨q0,q1,q2,q3,q4,q5,q6,q7,q8,q9,q10,q11⟩:=hb.eX;rw[Array.getD_eq_getD_getElem?] at h8 h9;simp[results,Tryz.results120,go_sem,An.v,h8,h9,q0,q1,q2,q3,q4,q5,q6,q7,q8,q9,q10,q11]
def Fs.dF(S:Fs)(c:Cr)(no kind want:Int):Int:=match S.get no with
 |none=>5
 |some n=>if n.kind=kind then(if n.may c want=true then 0 else 6) else if kind=1 then 9 else if n.kind=1 then 8 else 1
def Fs.read(S:Fs)(c:Cr)(no:Int):ByteArray×Int:=if S.dF c no 2 4=0 then(match S.get no with|none=>(ByteArray.empty,0)|some n=>(n.data,0)) else(ByteArray.empty,S.dF c no 2 4)
section
variable{w w':World}{pw:Nat}{R:Rp}{S:Fs}
theorem IQ(h:bh w pw R S){N:Nat}(hk:av S N)(no:Int) :
  Calls Tryz.prog 73 #[.pointer (some ⟨pw,0,none⟩),.int .i64 no] w fun e w'=>e=.returned (.tuple #[LH (S.get no),.int .i64 (rM (S.get no))])∧Up w w':=by
 have j8:=Um (fun w1 (ar:Up w w1)=>fi (h.ak ar) hk.d1);have hnz:=hk.d1;generalize S.ds.length=n at j8 hnz;have hz:((n:Int)==0)=false:=by simp;omega
 obtain⟨pc,-,pz⟩:=h.bd.facts;obtain⟨eF,ax⟩:=Uo w #[.int .i64 0,.int .i64 0,.int .i64 0,.int .i64 0,.int .i64 0,.int .i64 0,.int .i64 0,.int .i64 0,.int .i64 0,.int .i64 0] 91
 cases hg:S.get no with
 |none=>
  have HG:=Um (fun w1 (ar:Up w w1)=>fN (h.ak ar) hg);unfold An.v dh at HG;unfold LH rM;clear h hk hg;go_enter Tryz.func73,Tryz.ntmps73;go_wp2_with fail;refine(j8.o _ ax).mono ?_;rintro e w1 ⟨rfl,rfl⟩;generalize w.alloc _=W0 at eF ax⊢;have gh:=Um eF;have aJ:=Um ax;have pc0:W0.cell? ⟨pw,0,none⟩=some (.pointer (some ⟨R.pt,0,none⟩)):=(ax.cell (p:=⟨pw,0,none⟩) pz).trans (pc 0);clear eF ax pc;go_wp2_with fail;refine(HG.o _ aJ.o).mono ?_;rintro e w1 ⟨rfl,ar⟩;have l6:=(gh.o.ak ar).eE (.cells #[.int .i64 0,.int .i64 0,.int .i64 0,.int .i64 0,.int .i64 0,.int .i64 0,.int .i64 0,.int .i64 0,.int .i64 0,.int .i64 0,.string ByteArray.empty,.slice none 0 0] 99);have et:=al (aJ.o.trans (ar.mono aJ.o.size)) (.cells #[.int .i64 0,.int .i64 0,.int .i64 0,.int .i64 0,.int .i64 0,.int .i64 0,.int .i64 0,.int .i64 0,.int .i64 0,.int .i64 0,.string ByteArray.empty,.slice none 0 0] 99);clear ar;go_upto_region 4 with fail;generalize w1.alloc _=Y at l6 et⊢;have vq:=Um l6;have jQ:=Um et;obtain⟨rc,rf,rz⟩:=l6.facts;clear l6 et;go_wp2_with fail;exact bodyPost_ret (pd vq.o.Ef rfl rfl) rfl ⟨rfl,j5 jQ.o (aa _)⟩
 |some d=>
  obtain⟨ea,el,ec,he,hG⟩:=eA h hg;have HG:=Um hG;unfold An.v at HG;unfold LH rM;clear h hk hg hG he;go_enter Tryz.func73,Tryz.ntmps73;go_wp2_with fail;refine(j8.o _ ax).mono ?_;rintro e w1 ⟨rfl,rfl⟩;generalize w.alloc _=W0 at eF ax⊢;have gh:=Um eF;have aJ:=Um ax;have pc0:W0.cell? ⟨pw,0,none⟩=some (.pointer (some ⟨R.pt,0,none⟩)):=(ax.cell (p:=⟨pw,0,none⟩) pz).trans (pc 0);clear eF ax pc;go_wp2_with fail;refine(HG.o _ aJ.o).mono ?_;rintro e w1 ⟨rfl,ar⟩;have l6:=(gh.o.ak ar).eE (.cells #[.int .i64 d.no,.int .i64 d.dev,.int .i64 d.kind,.int .i64 d.mode,.int .i64 d.uid,.int .i64 d.gid,.int .i64 d.mtime,.int .i64 d.ctime,.int .i64 d.an,.int .i64 d.up,.string d.data,.slice ea el ec] 99);have et:=al (aJ.o.trans (ar.mono aJ.o.size)) (.cells #[.int .i64 d.no,.int .i64 d.dev,.int .i64 d.kind,.int .i64 d.mode,.int .i64 d.uid,.int .i64 d.gid,.int .i64 d.mtime,.int .i64 d.ctime,.int .i64 d.an,.int .i64 d.up,.string d.data,.slice ea el ec] 99);have jP:=au.new w1 #[.int .i64 d.no,.int .i64 d.dev,.int .i64 d.kind,.int .i64 d.mode,.int .i64 d.uid,.int .i64 d.gid,.int .i64 d.mtime,.int .i64 d.ctime,.int .i64 d.an,.int .i64 d.up,.string d.data,.slice ea el ec] 99;clear ar;go_upto_region 4 with fail;generalize w1.alloc _=Y at l6 et jP⊢;have vq:=Um l6;have jQ:=Um et;obtain⟨rc,rf,rz⟩:=l6.facts;obtain⟨dc,df,dz⟩:=jP.facts;clear l6 et jP;go_wp2_with fail;exact bodyPost_ret (pd vq.o.Ef rfl rfl) rfl ⟨rfl,j5 jQ.o (aa _)⟩
theorem AE(h:bh w pw R S){N:Nat}(hk:av S N)(c:Cr)(no kind want:Int) :
  Calls Tryz.prog 120 #[.pointer (some ⟨pw,0,none⟩),.agg #[.int .i64 c.u,.int .i64 c.g],.int .i64 no,.int .i64 kind,.int .i64 want] w fun e w'=>((S.dF c no kind want≠0∧e=.returned (.tuple #[dh.v none 0 0,.int .i64 (S.dF c no kind want)]))∨(S.dF c no kind want=0∧∃d ea el ec,S.get no=some d∧e=.returned (.tuple #[d.v ea el ec,.int .i64 0])∧aA w ea el ec d.aB))∧Up w w':=by
 have j8:=Um (fun w1 (ar:Up w w1)=>fi (h.ak ar) hk.d1);have hnz:=hk.d1;generalize S.ds.length=n at j8 hnz;have hz:((n:Int)==0)=false:=by simp;omega
 obtain⟨pc,-,pz⟩:=h.bd.facts;have eF:au ((w.alloc (.cells #[.int .i64 c.u,.int .i64 c.g] 69)).alloc (.cells #[.int .i64 0,.int .i64 0,.int .i64 0,.int .i64 0,.int .i64 0,.int .i64 0,.int .i64 0,.int .i64 0,.int .i64 0,.int .i64 0,.string ⟨#[]⟩,.slice none 0 0] 99)) (w.heap.size+1) #[.int .i64 0,.int .i64 0,.int .i64 0,.int .i64 0,.int .i64 0,.int .i64 0,.int .i64 0,.int .i64 0,.int .i64 0,.int .i64 0,.string ⟨#[]⟩,.slice none 0 0] 99:=by
  have:=au.new (w.alloc (.cells #[.int .i64 c.u,.int .i64 c.g] 69)) #[.int .i64 0,.int .i64 0,.int .i64 0,.int .i64 0,.int .i64 0,.int .i64 0,.int .i64 0,.int .i64 0,.int .i64 0,.int .i64 0,.string ⟨#[]⟩,.slice none 0 0] 99
  rwa [World.size_alloc] at this
 have fy:=(au.new w #[.int .i64 c.u,.int .i64 c.g] 69).eE (.cells #[.int .i64 0,.int .i64 0,.int .i64 0,.int .i64 0,.int .i64 0,.int .i64 0,.int .i64 0,.int .i64 0,.int .i64 0,.int .i64 0,.string ⟨#[]⟩,.slice none 0 0] 99);have ax:=al (al (Uq w) (.cells #[.int .i64 c.u,.int .i64 c.g] 69)) (.cells #[.int .i64 0,.int .i64 0,.int .i64 0,.int .i64 0,.int .i64 0,.int .i64 0,.int .i64 0,.int .i64 0,.int .i64 0,.int .i64 0,.string ⟨#[]⟩,.slice none 0 0] 99)
 cases hg:S.get no with
 |none=>
  have HE:=Um (show S.dF c no kind want=5 by unfold Fs.dF;rw[hg]);have HG:=Um (fun w1 (ar:Up w w1)=>fN (h.ak ar) hg);unfold An.v dh at HG;generalize S.dF c no kind want=oe at HE⊢;clear h hk hg;go_enter Tryz.func120,Tryz.ntmps120;go_wp2_with fail;refine(j8.o _ ax).mono ?_;rintro e w1 ⟨rfl,rfl⟩;generalize (w.alloc (.cells #[.int .i64 c.u,.int .i64 c.g] 69)).alloc (.cells #[.int .i64 0,.int .i64 0,.int .i64 0,.int .i64 0,.int .i64 0,.int .i64 0,.int .i64 0,.int .i64 0,.int .i64 0,.int .i64 0,.string ⟨#[]⟩,.slice none 0 0] 99)=W0 at eF fy ax⊢;have gh:=Um eF;have aJ:=Um ax;have pc0:W0.cell? ⟨pw,0,none⟩=some (.pointer (some ⟨R.pt,0,none⟩)):=(ax.cell (p:=⟨pw,0,none⟩) pz).trans (pc 0);clear eF ax pc fy;go_wp2_with fail;refine(HG.o _ aJ.o).mono ?_;rintro e w1 ⟨rfl,ar⟩;have l6:=(gh.o.ak ar).eE (.cells #[.int .i64 0,.int .i64 0,.int .i64 0,.int .i64 0,.int .i64 0,.int .i64 0,.int .i64 0,.int .i64 0,.int .i64 0,.int .i64 0,.string ByteArray.empty,.slice none 0 0] 99);have et:=al (aJ.o.trans (ar.mono aJ.o.size)) (.cells #[.int .i64 0,.int .i64 0,.int .i64 0,.int .i64 0,.int .i64 0,.int .i64 0,.int .i64 0,.int .i64 0,.int .i64 0,.int .i64 0,.string ByteArray.empty,.slice none 0 0] 99);clear ar;go_upto_region 4 with fail;generalize w1.alloc _=Y at l6 et⊢;have vq:=Um l6;have jQ:=Um et;obtain⟨rc,rf,rz⟩:=l6.facts;clear l6 et;go_wp2_with fail;exact bodyPost_ret (fR (a:=dh) vq.o.dR rfl rfl) rfl ⟨.inl ⟨by rw[HE.o];decide,by rw[HE.o]⟩,aM jQ.o (Nat.le_succ _)⟩
 |some d=>
  obtain⟨ea,el,ec,he,hG⟩:=eA h hg;have HG:=Um hG;have jW:=Um he;have HQ:=Um (show S.dF c no kind want=if d.kind=kind then(if d.may c want=true then 0 else 6) else if kind=1 then 9 else if d.kind=1 then 8 else 1 by unfold Fs.dF;rw[hg]);have lM:=Um (fun w=>nk c d ea el ec want w);unfold Cr.v An.v at lM;unfold An.v at HG;generalize S.dF c no kind want=oe at HQ⊢;clear h hk hg hG he;go_enter Tryz.func120,Tryz.ntmps120;go_wp2_with fail;refine(j8.o _ ax).mono ?_;rintro e w1 ⟨rfl,rfl⟩;generalize (w.alloc (.cells #[.int .i64 c.u,.int .i64 c.g] 69)).alloc (.cells #[.int .i64 0,.int .i64 0,.int .i64 0,.int .i64 0,.int .i64 0,.int .i64 0,.int .i64 0,.int .i64 0,.int .i64 0,.int .i64 0,.string ⟨#[]⟩,.slice none 0 0] 99)=W0 at eF fy ax⊢;have gh:=Um eF;have aJ:=Um ax;have Oc:=Um fy;have pc0:W0.cell? ⟨pw,0,none⟩=some (.pointer (some ⟨R.pt,0,none⟩)):=(ax.cell (p:=⟨pw,0,none⟩) pz).trans (pc 0);clear eF ax pc fy;go_wp2_with fail;refine(HG.o _ aJ.o).mono ?_;rintro e w1 ⟨rfl,ar⟩;have l6:=(gh.o.ak ar).eE (.cells #[.int .i64 d.no,.int .i64 d.dev,.int .i64 d.kind,.int .i64 d.mode,.int .i64 d.uid,.int .i64 d.gid,.int .i64 d.mtime,.int .i64 d.ctime,.int .i64 d.an,.int .i64 d.up,.string d.data,.slice ea el ec] 99);have PS:=(Oc.o.ak ar).eE (.cells #[.int .i64 d.no,.int .i64 d.dev,.int .i64 d.kind,.int .i64 d.mode,.int .i64 d.uid,.int .i64 d.gid,.int .i64 d.mtime,.int .i64 d.ctime,.int .i64 d.an,.int .i64 d.up,.string d.data,.slice ea el ec] 99);have et:=al (aJ.o.trans (ar.mono aJ.o.size)) (.cells #[.int .i64 d.no,.int .i64 d.dev,.int .i64 d.kind,.int .i64 d.mode,.int .i64 d.uid,.int .i64 d.gid,.int .i64 d.mtime,.int .i64 d.ctime,.int .i64 d.an,.int .i64 d.up,.string d.data,.slice ea el ec] 99);have jP:=au.new w1 #[.int .i64 d.no,.int .i64 d.dev,.int .i64 d.kind,.int .i64 d.mode,.int .i64 d.uid,.int .i64 d.gid,.int .i64 d.mtime,.int .i64 d.ctime,.int .i64 d.an,.int .i64 d.up,.string d.data,.slice ea el ec] 99;clear ar;go_upto_region 4 with fail;generalize w1.alloc _=Y at l6 et jP PS⊢;have vq:=Um l6;have jQ:=Um et;have T5:=Um jP;obtain⟨rc,rf,rz⟩:=l6.facts;obtain⟨dc,df,dz⟩:=jP.facts;obtain⟨cc,-,-⟩:=PS.facts;clear l6 et jP PS;by_cases h1:d.kind=kind
  ·have mH:(d.kind==kind)=true:=by simpa using h1
   have l7:=Um (HQ.o.trans (if_pos h1));clear h1 HQ;go_wp2_with fail;refine(lM.o _).mono ?_;rintro e w5 ⟨rfl,b9⟩;have PF:=vq.o.ak b9;have NA:=T5.o.ak b9;have TO:=Um PF;have jX:=Um (jQ.o.trans (b9.mono jQ.o.size));clear rc rf rz dc df dz cc b9;obtain⟨rc,rf,rz⟩:=PF.facts;obtain⟨dc,df,dz⟩:=NA.facts;clear PF NA
   cases hm:d.may c want with
   |true=>
    have HE:=Um (l7.o.trans (if_pos hm));clear hm;go_wp2_with fail;exact bodyPost_ret (fR (a:=d) (ea:=ea) (el:=el) (ec:=ec) TO.o.dR rfl rfl) rfl ⟨.inr ⟨HE.o,d,ea,el,ec,rfl,rfl,jW.o⟩,aM jX.o (Nat.le_succ _)⟩
   |false=>
    have HE:=Um (l7.o.trans (if_neg (by rw[hm];decide)));clear hm;go_wp2_with fail;exact bodyPost_ret (fR (a:=dh) TO.o.dR rfl rfl) rfl ⟨.inl ⟨by rw[HE.o];decide,by rw[HE.o]⟩,aM jX.o (Nat.le_succ _)⟩
  ·have mH:(d.kind==kind)=false:=by simpa using h1
   have l7:=Um (HQ.o.trans (if_neg h1));clear h1 HQ;by_cases h2:kind=1
   ·have kA:(kind==1)=true:=by simpa using h2
    have HE:=Um (l7.o.trans (if_pos h2));clear h2;go_wp2_with fail;exact bodyPost_ret (fR (a:=dh) vq.o.dR rfl rfl) rfl ⟨.inl ⟨by rw[HE.o];decide,by rw[HE.o]⟩,aM jQ.o (Nat.le_succ _)⟩
   ·have kA:(kind==1)=false:=by simpa using h2
    have qq:=Um (l7.o.trans (if_neg h2));clear h2 l7;by_cases h3:d.kind=1
    ·have vF:(d.kind==1)=true:=by simpa using h3
     have HE:=Um (qq.o.trans (if_pos h3));clear h3;go_wp2_with fail;exact bodyPost_ret (fR (a:=dh) vq.o.dR rfl rfl) rfl ⟨.inl ⟨by rw[HE.o];decide,by rw[HE.o]⟩,aM jQ.o (Nat.le_succ _)⟩
    ·have vF:(d.kind==1)=false:=by simpa using h3
     have HE:=Um (qq.o.trans (if_neg h3));clear h3;go_wp2_with fail;exact bodyPost_ret (fR (a:=dh) vq.o.dR rfl rfl) rfl ⟨.inl ⟨by rw[HE.o];decide,by rw[HE.o]⟩,aM jQ.o (Nat.le_succ _)⟩
theorem F1(h:bh w pw R S){N:Nat}(hk:av S N)(c:Cr)(no:Int) :
  Calls Tryz.prog 74 #[.pointer (some ⟨pw,0,none⟩),.agg #[.int .i64 c.u,.int .i64 c.g],.int .i64 no] w fun e w'=>e=.returned (.tuple #[.string (S.read c no).1,.int .i64 (S.read c no).2])∧Up w w':=by
 have HO:=Um (fun w1 (ar:Up w w1)=>AE (h.ak ar) hk c no 2 4);have HR:=Um (show S.read c no=if S.dF c no 2 4=0 then(match S.get no with|none=>(ByteArray.empty,0)|some n=>(n.data,0)) else(ByteArray.empty,S.dF c no 2 4) from rfl);generalize S.read c no=rd at HR⊢;clear h hk;go_enter Tryz.func74,Tryz.ntmps74;go_wp2_with fail;refine(HO.o _ (al (Below.refl _ _) _)).mono ?_;rintro e w1 ⟨⟨h0,rfl⟩|⟨h0,d,ea,el,ec,hg,rfl,-⟩,ar⟩
 ·have HB:=Um (ao (al (Uq w) _) ar);have HE:=Um (HR.o.trans (if_neg h0));generalize S.dF c no 2 4=oe at HE⊢;unfold An.v dh;clear h0 ar;go_wp2_with fail;go_ret2;rw[HE.o];exact⟨rfl,al HB.o _⟩
 ·have HB:=Um (ao (al (Uq w) _) ar);have HE:=Um (show rd=(d.data,0) by rw[HR.o,if_pos h0,hg]);unfold An.v;clear h0 ar hg;go_wp2_with fail;go_ret2;rw[HE.o];exact⟨rfl,al HB.o _⟩
end
end
section
open Go.RowKit
theorem Em{w:World}{base base' sz n:Nat}{e:TypeId}{v:Value}{xs:List Value}(h:w.ownsRow base e sz v n xs)(hb:base'≤base):w.ownsRow base' e sz v n xs:=
 ⟨h.1,h.2.imp id fun⟨g,cap,cur,hv,hg,rest⟩=>⟨g,cap,cur,hv,ae hb hg,rest⟩⟩
theorem Kt:(Tryz.prog.info? 182).map (fun i=>(i.zero,i.size,i.bytes))=some (some (.agg #[.int .i64 0,.int .i64 0]),2,16):=by kernel_rfl
theorem zV{w:World}{b off n c:Nat}{l:List (Int×Int)}(h:bj w 2 lX (some ⟨b,off,none⟩) n c l)(j:Nat)(u:Value)(hu:(l.flatMap yJ)[j]?=some u):w.cell? (Addr.add ⟨b,off,none⟩ j)=some u:=by
 obtain⟨hl,-,-,h0|⟨b',off',he,hb,hel⟩⟩:=h
 ·rw[show l=[] from List.eq_nil_of_length_eq_zero (by omega)] at hu;simp at hu
 ·injection he with he;injection he with e1 e2;subst e1 e2;have hjl:j<l.length*2:=by
   have:=(List.getElem?_eq_some_iff.1 hu).1
   rwa [bC eG] at this
  have hk:j / 2<l.length:=by omega
  obtain⟨cs,h1,h2,h3⟩:=hel (j / 2) hk;unfold lX at h2;subst h2;have h4:=h3 (j % 2) (by rw[eG];omega);have h5:off+j / 2*2+j % 2=off+j:=by omega
  rw[h5] at h4;have h6:(l.flatMap yJ)[j]?=(yJ l[j / 2])[j % 2]?:=by
   clear h4 h3 hu h1 hel hjl h5 hl hb
   induction l generalizing j with
   |nil=>simp at hk
   |cons x l ih=>
    rw[List.flatMap_cons];by_cases hj:j<2
    ·rw[List.getElem?_append_left (by rw[eG];exact hj)];have e1:j / 2=0:=by omega
     have e2:j % 2=j:=by omega
     simp[e1,e2]
    ·rw[List.getElem?_append_right (by rw[eG];omega),eG];have hk':(j-2) / 2<l.length:=by simp only[List.length_cons] at hk;omega
     rw[ih (j-2) hk'];have e1:j / 2=(j-2) / 2+1:=by omega
     have e2:j % 2=(j-2) % 2:=by omega
     simp[e1,e2]
  rw[h6,List.getElem?_eq_getElem (by rw[eG];omega)] at hu;injection hu with hu;rw[←hu,←h4];by_cases hz:j=0
  ·subst hz;simp[Addr.add]
  ·simp[Addr.add,hz]
section
variable{w w':World}{pf pw:Nat}{R:Rp}{pv:Value}{Y:Sy}
def sy0(b n:Int):Sy:=⟨sK.aF 0 b n,0,0,[],false⟩
theorem IU(b n:Int)(hlim:hU b n=true)(w:World) :
  Calls Tryz.prog 90 #[.int .i64 b,.int .i64 n] w fun e w'=>∃pf pw R,e=.returned (.tuple #[.pointer (some ⟨pf,0,none⟩),.int .i64 0])∧bK w' pf pw R (.slice none 0 0) (sy0 b n)∧Up w w'∧∀k,R.Y pf pw k→w.heap.size≤k:=by
 have HN:=Um (Iz b n hlim w);clear hlim;go_enter Tryz.func90,Tryz.ntmps90;go_wp2_with fail;refine HN.o.mono ?_;rintro e w1 ⟨pw,R,rfl,hW,hb,hF⟩;have HX:=Um (ag hW (ag hb hF));clear hW hb hF;go_wp2_with fail;go_ret2;obtain⟨hW,hb,hF⟩:=HX.o;refine⟨w1.heap.size,pw,R,rfl,⟨au.new _ _ _,hW.ak ((Below.refl _ _).alloc (aa _) _),⟨rfl,.inl ⟨rfl,rfl⟩⟩⟩,al hb _,fun k hk=>?_⟩;rcases hk with rfl|hk
 ·exact hb.size
 ·exact hF k hk
theorem EK{W:World}{a:Option Addr}{n c:Nat}{l:List (Int×Int)}(hl:bj W 2 lX a n c l)(hn:l.length≤1000000) :
  ∃v W',(Builtin.append_ #[28,28] 28 #[.slice none 0 0,.slice a n c]).run Tryz.prog W=.ok v W'∧W'.ownsRow W.heap.size 182 2 v l.length (l.flatMap yJ)∧Up W W':=by
 obtain⟨i0,hi,iU,gx,fT⟩:=info_parts Kt;have hln:=hl.1;have hnil:W.ownsRow W.heap.size 182 2 (.slice none 0 0) 0 []:=⟨rfl,.inl ⟨rfl,rfl⟩⟩;by_cases h0:n=0
 ·subst h0;rw[show l=[] from List.eq_nil_of_length_eq_zero (by omega)];exact⟨_,W,gT _ Tryz.underlying28 hi hnil a c,hnil,Below.refl _ _⟩
 ·obtain⟨b,off,rfl⟩:∃b off,a=some ⟨b,off,none⟩:=by
   obtain⟨-,-,-,h|⟨b,off,h,-⟩⟩:=hl
   ·exact absurd h h0
   ·exact⟨b,off,h⟩
  obtain⟨g,cap,W',h1,h2,h3,h4⟩:=cX 28 Tryz.underlying28 hi iU gx fT rfl (by omega) hnil ⟨b,off,none⟩ n c (l.flatMap yJ) (by rw[bC eG,hln]) (fun j u hu=>zV hl j u hu)
   (by intro u hu;obtain⟨y,-,hy⟩:=List.mem_flatMap.1 hu;simp[yJ] at hy;rcases hy with rfl|rfl<;>rfl) (by omega) (by unfold maxLen;omega) (by omega) (aa _)
  refine⟨_,W',h1,?_,h3.below (fun k hk=>by cases hk) (aa _)⟩;rw[hln];rw[List.nil_append,Nat.zero_add] at h2;rw[Nat.zero_add];exact h2
theorem Fp(h:bK w pf pw R pv Y){a:Option Addr}{n c:Nat}{l:List (Int×Int)}(hl:bj w 2 lX a n c l)(hpa:∀b off,a=some ⟨b,off,none⟩→b≠pf)(hn:l.length≤1000000) :
  Calls Tryz.prog 58 #[.pointer (some ⟨pf,0,none⟩),.slice a n c] w fun e w'=>e=.returned (.tuple #[])∧∃pv',bK w' pf pw R pv' {Y with count:=0,bD:=l}∧Mod (fun k=>k=pf) w w':=by
 have HN:=Um (ir h);have HY:=Um h;have qk:bj (w.setCell ⟨pf,2,none⟩ (.int .i64 0)) 2 lX a n c l:=by
  refine⟨hl.1,hl.2.1,hl.2.2.1,hl.2.2.2.imp id ?_⟩;rintro⟨b,off,rfl,hlt,hel⟩;have hq:=Below.heap_setCell w ⟨pf,2,none⟩ (.int .i64 0) b (hpa b off rfl);refine⟨b,off,rfl,by simpa [World.setCell] using hlt,fun i hi=>?_⟩;obtain⟨cs,h1,h2,h3⟩:=hel i hi;refine⟨cs,h1,h2,fun j hj=>?_⟩;rw[←h3 j hj];simp only[World.cell?,hq]
 obtain⟨v,W,hrun,hown,lS⟩:=EK qk hn;obtain⟨a1,c1,rfl,-,-,-⟩:=bw hown;have gm:=h.bd.set 2 (.int .i64 0);have lW:=gm.ak lS;have HR:=Um hrun;have HX:=Um (ag hown (ag lS lW));obtain⟨pc,pf',pz⟩:=h.bd.facts;obtain⟨qc,qf,qz⟩:=lW.facts;clear h hl qk hrun hown lS gm lW;go_enter Tryz.func58,Tryz.ntmps58;go_wp2_with (first|(go_at_call 59;((with_reducible refine HN.o.mono ?_);rintro e w1 ⟨rfl,rfl⟩))|(at_builtin;refine aG rfl rfl rfl rfl HR.o ?_))
 go_end0
 obtain⟨hown,lS,lW⟩:=HX.o;have eR:=(Mod.refl (fun k=>k=pf) w).setCell (a:=⟨pf,2,none⟩) (.inl rfl) (.int .i64 0);have hm:=(eR.trans (Mod.aq lS)).setCell (a:=⟨pf,3,none⟩) (.inl rfl) (.slice a1 l.length c1);have hlt:pf<(w.setCell ⟨pf,2,none⟩ (.int .i64 0)).heap.size:=by simpa [World.setCell] using HY.o.bd.lt
 refine⟨rfl,.slice a1 l.length c1,⟨lW.set 3 _,HY.o.wd.mod hm (fun k o hk ho=>?_),?_⟩,hm⟩
 ·subst hk;have hb:=HY.o.bd;unfold au at hb;rw[hb] at ho;injection ho with ho;subst ho;exact⟨rfl,fun cur e=>by cases e⟩
 ·refine Em (bq hown ((Mod.refl (fun k=>k=pf) W).setCell (a:=⟨pf,3,none⟩) (.inl rfl) _) (fun k hk he=>?_)) (Nat.zero_le _);subst hk;have:=(aT hown he).1;omega
def Sy.RD(Y:Sy):Sy:={Y with count:=0,bD:=[],dead:=false}
theorem Fh(h:bK w pf pw R pv Y) :
  Calls Tryz.prog 97 #[.pointer (some ⟨pf,0,none⟩)] w fun e w'=>e=.returned (.tuple #[])∧∃pv',bK w' pf pw R pv' Y.RD∧Mod (fun k=>k=pf) w w':=by
 have HN:=Um (ir h);have eR:=(Mod.refl (fun k=>k=pf) w).setCell (a:=⟨pf,4,none⟩) (.inl rfl) (.bool false);have eK:=h.zJ eR (Z:={Y with dead:=false}) rfl rfl (h.bd.set 4 (.bool false));have HP:=Um (Fp eK (a:=none) (n:=0) (c:=0) (l:=[]) ⟨rfl,aa _,by omega,.inl rfl⟩ (fun b off h=>by cases h) (Nat.zero_le _));have HM:=Um eR;obtain⟨pc,pf',pz⟩:=h.bd.facts;clear h eR eK;go_enter Tryz.func97,Tryz.ntmps97;go_wp2_with fail;refine HN.o.mono ?_;rintro e w1 ⟨rfl,rfl⟩;go_wp2_with fail;refine HP.o.mono ?_;rintro e w2 ⟨rfl,pv',PB,lR⟩;have HX:=Um (ag PB lR);clear PB lR;go_wp2_with fail
 go_end0
 exact⟨rfl,pv',HX.o.1,HM.o.trans HX.o.2⟩
end
end
section
open Go.RowKit
theorem nU{tmps:Array Value}{W:World}{B:Nat}{y0 y1 y2 y3 y4 y5 y6 y7 y8 y9 e:Int}(hb:au W B #[.int .i64 y0,.int .i64 y1,.int .i64 y2,.int .i64 y3,.int .i64 y4,.int .i64 y5,.int .i64 y6,.int .i64 y7,.int .i64 y8,.int .i64 y9] 91)
  (h8:tmps.getD 4 undef=.pointer (some ⟨B,0,none⟩)) (h9:tmps.getD 5 undef=.int .i64 e):(results Tryz.f38 tmps).run Tryz.prog W=.ok (.tuple #[.agg #[.int .i64 y0,.int .i64 y1,.int .i64 y2,.int .i64 y3,.int .i64 y4,.int .i64 y5,.int .i64 y6,.int .i64 y7,.int .i64 y8,.int .i64 y9],.int .i64 e]) W:=by
 have q0:=hb.cell 0;have q1:=hb.cell 1;have q2:=hb.cell 2;have q3:=hb.cell 3;have q4:=hb.cell 4;have q5:=hb.cell 5;have q6:=hb.cell 6;have q7:=hb.cell 7;have q8:=hb.cell 8;have q9:=hb.cell 9;rw[Array.getD_eq_getD_getElem?] at h8 h9;simp[results,Tryz.results38,go_sem,h8,h9,q0,q1,q2,q3,q4,q5,q6,q7,q8,q9]
section
variable{w w':World}{pf pw:Nat}{R:Rp}{pv:Value}{Y:Sy}
theorem qx(h:bK w pf pw R pv Y){N:Nat}(hk:av Y.fs N)(hd:Y.dead=false)(no:Int) :
  Calls Tryz.prog 38 #[.pointer (some ⟨pf,0,none⟩),.int .i64 no] w fun e w'=>e=.returned (.tuple #[LH (Y.fs.get no),.int .i64 (rM (Y.fs.get no))])∧Up w w':=by
 obtain⟨eF,ax⟩:=Uo w #[.int .i64 0,.int .i64 0,.int .i64 0,.int .i64 0,.int .i64 0,.int .i64 0,.int .i64 0,.int .i64 0,.int .i64 0,.int .i64 0] 91;have HR:=Um (fun w1 (ar:Up w w1)=>iq (h.ak ar));rw[hd] at HR;have HS:=Um (fun w1 (ar:Up w w1)=>IQ (h.wd.ak ar) hk no);obtain⟨pc,-,pz⟩:=h.bd.facts;have vr:=Um (fun w1 (ar:Up w w1)=>show w1.cell? ⟨pf,0,none⟩=some (.pointer (some ⟨pw,0,none⟩)) from(ar.cell (p:=⟨pf,0,none⟩) pz).trans (pc 0));clear h hk hd pc pz
 cases hg:Y.fs.get no with
 |none=>
  rw[hg] at HS;unfold LH rM at HS⊢;clear hg;go_enter Tryz.func38,Tryz.ntmps38;go_wp2_with fail;refine(HR.o _ ax).mono ?_;rintro e w1 ⟨rfl,rfl⟩;generalize w.alloc _=W0 at eF ax⊢;have gh:=Um eF;have aJ:=Um ax;have pc0:=vr.o _ ax;clear eF ax;go_wp2_with fail;refine(HS.o _ aJ.o).mono ?_;rintro e w1 ⟨rfl,ar⟩;have l6:=gh.o.ak ar;have vq:=Um l6;have jQ:=Um (aJ.o.trans (ar.mono aJ.o.size));obtain⟨rc,rf,rz⟩:=l6.facts;clear l6 ar;go_wp2_with fail;exact bodyPost_ret (nU vq.o.Ef rfl rfl) rfl ⟨rfl,j5 jQ.o (aa _)⟩
 |some d=>
  rw[hg] at HS;unfold LH rM at HS⊢;clear hg;go_enter Tryz.func38,Tryz.ntmps38;go_wp2_with fail;refine(HR.o _ ax).mono ?_;rintro e w1 ⟨rfl,rfl⟩;generalize w.alloc _=W0 at eF ax⊢;have gh:=Um eF;have aJ:=Um ax;have pc0:=vr.o _ ax;clear eF ax;go_wp2_with fail;refine(HS.o _ aJ.o).mono ?_;rintro e w1 ⟨rfl,ar⟩;have l6:=gh.o.ak ar;have vq:=Um l6;have jQ:=Um (aJ.o.trans (ar.mono aJ.o.size));obtain⟨rc,rf,rz⟩:=l6.facts;clear l6 ar;go_wp2_with fail;exact bodyPost_ret (nU vq.o.Ef rfl rfl) rfl ⟨rfl,j5 jQ.o (aa _)⟩
theorem CG(h:bK w pf pw R pv Y){N:Nat}(hk:av Y.fs N)(hd:Y.dead=false)(c:Cr)(no:Int) :
  Calls Tryz.prog 39 #[.pointer (some ⟨pf,0,none⟩),.agg #[.int .i64 c.u,.int .i64 c.g],.int .i64 no] w fun e w'=>e=.returned (.tuple #[.string (Y.fs.read c no).1,.int .i64 (Y.fs.read c no).2])∧Up w w':=by
 obtain⟨fy,ax⟩:=Uo w #[.int .i64 c.u,.int .i64 c.g] 69;have HR:=Um (fun w1 (ar:Up w w1)=>iq (h.ak ar));rw[hd] at HR;have HS:=Um (fun w1 (ar:Up w w1)=>F1 (h.wd.ak ar) hk c no);obtain⟨pc,-,pz⟩:=h.bd.facts;have vr:=Um (fun w1 (ar:Up w w1)=>show w1.cell? ⟨pf,0,none⟩=some (.pointer (some ⟨pw,0,none⟩)) from(ar.cell (p:=⟨pf,0,none⟩) pz).trans (pc 0));have mixed:Tryz.prog.follows .mixedOrders=true:=by kernel_rfl
 generalize Y.fs.read c no=rd at HS⊢;clear h hk hd pc pz;go_enter Tryz.func39,Tryz.ntmps39;go_wp2_with fail;refine(HR.o _ ax).mono ?_;rintro e w1 ⟨rfl,rfl⟩;generalize w.alloc _=W0 at fy ax⊢;have aJ:=Um ax;have pc0:=vr.o _ ax;obtain⟨cc,-,cz⟩:=fy.facts;clear fy ax;go_wp2_with fail;refine ay 6 mixed (by kernel_rfl) (show bV _ from by repeat (first|exact cZ|refine cY ?_|refine cw ?_|refine cJ ?_)) ?_;simp only[List.take_succ_cons,List.take_zero,List.drop_succ_cons,List.drop_zero]
 repeat still_step
 refine wpStill_nil ?_;go_wp2_with fail;refine(HS.o _ aJ.o.drew).mono ?_;rintro e w1 ⟨rfl,ar⟩;have HB:=Um (aJ.o.drew.trans (ar.mono aJ.o.size));clear ar;go_wp2_with fail;go_ret2;exact⟨rfl,HB.o⟩
end
end
section
open Go.RowKit
def saR(cs:List Value)(x:List UInt8):Prop:=cs=qX x
def SA(w:World)(a:Option Addr)(n c:Nat)(l:List (List UInt8)):Prop:=bj w 1 saR a n c l
theorem SA.len{w:World}{a:Option Addr}{n c:Nat}{l:List (List UInt8)}(h:SA w a n c l):l.length=n:=h.1
theorem SA.yh{w:World}{base c:Nat}{a:Option Addr}{l:List (List UInt8)}(h:OS w base (.slice a l.length c) l):SA w a l.length c l:=bW (R:=saR) (by omega) mO (fun _=>rfl) h
theorem SA.cell{w:World}{a:Option Addr}{n c:Nat}{l:List (List UInt8)}(h:SA w a n c l){b off:Nat}(ha:a=some ⟨b,off,none⟩)(k:Nat)(hk:k<l.length):w.cell? ⟨b,off+k,none⟩=some (.string (str l[k])):=by
 obtain⟨h1,-,-,h0|⟨b',off',he,hb,hel⟩⟩:=h
 ·omega
 ·rw[ha] at he;injection he with he;injection he with e1 e2;subst e1 e2;obtain⟨cs,h1,h2,h3⟩:=hel k hk;subst h2;have:=h3 0 (by simp[qX]);rw[Nat.mul_one,Nat.add_zero] at this;exact this
theorem SA.ey{w:World}{a:Option Addr}{n c:Nat}{l:List (List UInt8)}(h:SA w a n c l)(hn:0<n):∃b off,a=some ⟨b,off,none⟩∧b<w.heap.size:=by
 obtain⟨h1,-,-,h0|⟨b',off',he,hb,hel⟩⟩:=h
 ·omega
 ·exact⟨b',off',he,hb⟩
theorem SA.ak{w w':World}{a:Option Addr}{n c:Nat}{l:List (List UInt8)}(h:SA w a n c l)(hb:Up w w'):SA w' a n c l:=by
 refine⟨h.1,h.2.1,h.2.2.1,h.2.2.2.imp id ?_⟩;rintro⟨b,off,rfl,hlt,hel⟩;refine⟨b,off,rfl,Nat.lt_of_lt_of_le hlt hb.size,fun i hi=>?_⟩;obtain⟨cs,h1,h2,h3⟩:=hel i hi;exact⟨cs,h1,h2,fun j hj=>(hb.cell (p:=⟨b,_,none⟩) hlt).trans (h3 j hj)⟩
theorem SA.lP{w:World}{a:Option Addr}{n c:Nat}{l:List (List UInt8)}(h:SA w a n c l){B:Nat}(hB:∀b off,a=some ⟨b,off,none⟩→b≠B)(i:Nat)(v:Value):SA (w.setCell ⟨B,i,none⟩ v) a n c l:=by
 refine⟨h.1,h.2.1,h.2.2.1,h.2.2.2.imp id ?_⟩;rintro⟨b,off,rfl,hlt,hel⟩;have hq:=Below.heap_setCell w ⟨B,i,none⟩ v b (hB b off rfl);refine⟨b,off,rfl,by simpa [World.setCell] using hlt,fun i hi=>?_⟩;obtain⟨cs,h1,h2,h3⟩:=hel i hi;refine⟨cs,h1,h2,fun j hj=>?_⟩;rw[←h3 j hj];simp only[World.cell?,hq]
theorem SA.tail{w:World}{a:Option Addr}{n c:Nat}{x:List UInt8}{l:List (List UInt8)}(h:SA w a n c (x::l)){b off:Nat}(ha:a=some ⟨b,off,none⟩):SA w (if c=1 then a else some ⟨b,off+1,none⟩) (n-1) (c-1) l:=by
 have hl:=h.1;obtain⟨-,h1,h2,h0|⟨b',off',he,hb,hel⟩⟩:=h
 ·simp at hl;omega
 ·rw[ha] at he;injection he with he;injection he with e1 e2;subst e1 e2;have hl':l.length=n-1:=by simp at hl;omega
  have gO:1≤n:=by rw[←hl];simp
  refine⟨hl',by omega,by omega,?_⟩;by_cases hn:n=1
  ·exact .inl (by omega)
  ·refine .inr ⟨b,off+1,by rw[if_neg (by omega)],hb,fun i hi=>?_⟩;obtain⟨cs,h3,h4,h5⟩:=hel (i+1) (by simp;omega);refine⟨cs,h3,by simpa using h4,fun j hj=>?_⟩;rw[←h5 j hj];congr 2;omega
theorem xS{w:World}{base:Nat}{v:Value}{ps:List (List UInt8)}{a:Option Addr}{n c:Nat}{l:List (List UInt8)}(hO:OS w base v ps)(hS:SA w a n c l)(hl:ps.length+l.length≤1000000)(hbase:base≤w.heap.size) :
  ∃a' n' c' W,(Builtin.append_ #[154,154] 154 #[v,.slice a n c]).run Tryz.prog w=.ok (.slice a' n' c') W∧SA W a' n' c' (ps++l)∧(∀b off,a'=some ⟨b,off,none⟩→base≤b)∧Below base w W:=by
 obtain⟨i0,hi,iU,gx,fT⟩:=info_parts s7;have hln:=hS.len
 cases l with
 |nil=>
  obtain rfl:n=0:=by simpa using hln.symm
  obtain⟨a1,c1,rfl,-,-,hf⟩:=bw hO;refine⟨a1,ps.length,c1,w,gT _ Tryz.underlying154 hi hO a c,?_,?_,Below.refl _ _⟩
  ·rw[List.append_nil];exact SA.yh hO
  ·rintro b off rfl;rcases hf with⟨h,-⟩|⟨g,h,hb,-⟩
   ·cases h
   ·injection h with h;injection h with h1 h2;omega
 |cons x l=>
  have hn:0<n:=by rw[←hln];simp
  obtain⟨b,off,rfl,hb⟩:=hS.ey hn;obtain⟨g,cap,W,h1,h2,h3,h4⟩:=cX 154 Tryz.underlying154 hi iU gx fT rfl (by omega) hO ⟨b,off,none⟩ n c ((x::l).flatMap qX) (by rw[bC mO,hln])
   (fun j u hu=>by
    have he:(x::l).flatMap qX=(x::l).map (fun y=>Value.string (str y)):=by
     generalize (x::l)=m
     induction m with
     |nil=>rfl
     |cons y m ih=>simp only[List.flatMap_cons,qX,List.map_cons,ih];rfl
    rw[he,List.getElem?_map] at hu;obtain⟨y,hy,rfl⟩:=Option.map_eq_some_iff.1 hu;obtain⟨hj,rfl⟩:=List.getElem?_eq_some_iff.1 hy;have:=hS.cell rfl j hj;by_cases h0:j=0
    ·subst h0;simpa [Addr.add] using this
    ·simpa [Addr.add,h0] using this)
   (by intro u hu;obtain⟨y,-,hy⟩:=List.mem_flatMap.1 hu;simp[qX] at hy;subst hy;rfl) hn (by unfold maxLen;omega) (by omega) hbase
  have iW:OS W base (.slice (some ⟨g,0,none⟩) (ps++x::l).length cap) (ps++x::l):=by
   unfold OS;rw[List.length_append,List.flatMap_append,hln];exact h2
  refine⟨_,_,_,W,h1,?_,?_,h3.below (fun k hk=>(hO.lt k hk).1) hbase⟩
  ·have:=SA.yh iW
   rwa [List.length_append,hln] at this
  ·rintro b' off' h;injection h with h;injection h with h;subst h;exact(cd h2).2.1
def eZ(w:World)(Bt pw:Nat)(c:Cr)(k:Int)(ta:Option Addr)(tl tc:Nat)(hops:Int)(must:Bool):Prop:=
 au w Bt #[.pointer (some ⟨pw,0,none⟩),.int .i64 c.u,.int .i64 c.g,.int .i64 k,.slice ta tl tc,.int .i64 hops,.bool must] 257
theorem Hc{B:Nat}{w w':World}(h:Up w w'):Mod (fun k=>k=B) w w':=Mod.aq h
def FlP(w:World)(Bt pw:Nat)(c:Cr)(k hops:Int)(must:Bool)(l:List (List UInt8))(s:ByteArray)(e:Ending)(w':World):Prop:=
 Mod (fun k=>k=Bt) w w'∧
   ((8<hops+1∧e=.returned (.int .i64 12))∨(hops+1≤8∧s.data.toList=[]∧e=.returned (.int .i64 5))∨
    (hops+1≤8∧s.data.toList≠[]∧e=.returned (.int .i64 0)∧∃ta' tl' tc',eZ w' Bt pw c (if s.data.toList.head?=some 47 then 1 else k) ta' tl' tc' (hops+1) (if l=[] then must||eT s.data.toList else must)∧
     SA w' ta' tl' tc' (bE s.data.toList++l)∧∀b off,ta'=some ⟨b,off,none⟩→w.heap.size≤b))
theorem DF{w:World}{Bt pw:Nat}{c:Cr}{k:Int}{ta:Option Addr}{tl tc:Nat}{hops:Int}{must:Bool}(hb:eZ w Bt pw c k ta tl tc hops must){l:List (List UInt8)}(hl:SA w ta tl tc l)(hta:∀b off,ta=some ⟨b,off,none⟩→b≠Bt)(s:ByteArray)(hs:s.size≤4096)(hll:l.length≤900000)(hh:0≤hops∧hops≤100) :
  Calls Tryz.prog 175 #[.pointer (some ⟨Bt,0,none⟩),.string s] w fun e w'=>FlP w Bt pw c k hops must l s e w':=by
 unfold eZ at hb;have HB:=Um hb;have HL:=Um hl;obtain⟨bc,bf,bz⟩:=hb.facts;obtain⟨hh0,QP⟩:=hh;have hlen:=hl.len;have htl:tl≤900000:=by omega
 have N1:=Um hta;have va:=Um hlen;clear hb hl hta hlen;by_cases h1:8<hops+1
 ·have Q8:(8:Int)<hops+1:=h1;have Q7:(7:Int)<hops:=by omega
  have h1c:(8:Int)≤hops:=by omega
  go_enter Tryz.func175,Tryz.ntmps175;go_wp2_with fail;go_ret;exact⟨(Mod.refl (fun k=>k=Bt) w).setCell (a:=⟨Bt,5,none⟩) (.inl rfl) _,.inl ⟨h1,rfl⟩⟩
 ·have kA:hops+1≤8:=by omega
  have h2a:hops≤7:=by omega
  by_cases h3:s.data.toList=[]
  ·have vF:s.toList=[]:=by rw[aC];exact h3
   have HE:=Um h3;clear h1 h3;go_enter Tryz.func175,Tryz.ntmps175;go_wp2_with fail;go_ret;exact⟨(Mod.refl (fun k=>k=Bt) w).setCell (a:=⟨Bt,5,none⟩) (.inl rfl) _,.inr (.inl ⟨kA,HE.o,rfl⟩)⟩
  ·have vF:s.toList.isEmpty=false:=by rw[aC];simpa using h3
   have J3:0<s.size:=by
    have:s.data.toList.length=s.size:=Array.length_toList;rcases Nat.eq_zero_or_pos s.size with h|h
    ·exact absurd (List.eq_nil_of_length_eq_zero (by omega)) h3
    ·exact h
   have HE:=Um h3;have hhd:s.data.toList.head?=some s[0]:=by
    rw[List.head?_eq_getElem?,List.getElem?_eq_getElem (by rw[Array.length_toList];exact J3)];rfl
   obtain⟨at2,SO⟩:∃x:Int,x=if s.data.toList.head?=some 47 then 1 else k:=⟨_,rfl⟩;have Iw:=Um SO;have HHd:=Um hhd;have h1n:¬(8:Int)<hops+1:=h1;clear h1 h3 SO hhd;go_enter Tryz.func175,Tryz.ntmps175;go_upto_if 21 with fail
   go_cut [] (fun wx=>eZ wx Bt pw c at2 ta tl tc (hops+1) must∧SA wx ta tl tc l∧Mod (fun k=>k=Bt) w wx)
   case first=>
    by_cases qQ:s[0]=47
    ·have eS:((s[0].toNat:Int)==47)=true:=by rw[qQ];rfl
     have vL:=Um (show at2=1 by rw[Iw.o,HHd.o,qQ];rfl);clear qQ;go_wp2_with fail;go_meet;rw[vL.o];exact⟨(HB.o.set 5 _).set 3 _,(HL.o.lP N1.o 5 _).lP N1.o 3 _,((Mod.refl (fun k=>k=Bt) w).setCell (a:=⟨Bt,5,none⟩) (.inl rfl) _).setCell (a:=⟨Bt,3,none⟩) (.inl rfl) _⟩
    ·have eS:((s[0].toNat:Int)==47)=false:=by
      simp only[beq_eq_false_iff_ne,ne_eq];intro h;exact qQ (by rw[gE];show s[0].toNat=47;omega)
     have vL:=Um (show at2=k by rw[Iw.o,HHd.o,if_neg (by intro e;injection e with e;exact qQ e)]);clear qQ;go_wp2_with fail;go_meet;rw[vL.o];exact⟨HB.o.set 5 _,HL.o.lP N1.o 5 _,(Mod.refl (fun k=>k=Bt) w).setCell (a:=⟨Bt,5,none⟩) (.inl rfl) _⟩
   case rest=>
    obtain⟨hb,hl,hm⟩:=hcut;generalize wc=wa at hb hl hm⊢;unfold eZ at hb;have cM:=Um hb;have Rn:=Um hl;have zd:=Um hm;have GG:=hm.size;obtain⟨m2,lR⟩:∃x:Bool,x=if l=[] then must||eT s.data.toList else must:=⟨_,rfl⟩;have sg:=Um lR;have EZ:=Um (fun w=>vT s w (by omega));clear bc bf bz;obtain⟨bc,bf,bz⟩:=hb.facts;clear hb hl hm lR;generalize hsl:eT s.data.toList=sl at EZ sg;have HSLe:=Um hsl;clear hsl;go_upto_if 30 with fail
    go_cut [] (fun wx=>eZ wx Bt pw c at2 ta tl tc (hops+1) m2∧SA wx ta tl tc l∧Mod (fun k=>k=Bt) w wx)
    case first=>
     by_cases dL:l=[]
     ·have vL:=Um (show m2=(must||sl) by rw[sg.o,if_pos dL]);have EC:tl=0:=by rw[←va.o,dL];rfl
      subst EC;clear dL
      cases must with
      |true=>
       go_wp2_with fail;go_meet;rw[vL.o];exact⟨cM.o.set 6 _,Rn.o.lP N1.o 6 _,zd.o.setCell (a:=⟨Bt,6,none⟩) (.inl rfl) _⟩
      |false=>
       go_wp2_with (refine(EZ.o _).mono ?_;rintro e w1 ⟨rfl,rfl⟩);go_meet;rw[vL.o];exact⟨cM.o.set 6 _,Rn.o.lP N1.o 6 _,zd.o.setCell (a:=⟨Bt,6,none⟩) (.inl rfl) _⟩
     ·have vL:=Um (show m2=must by rw[sg.o,if_neg dL]);have EC:0<tl:=by rw[←va.o];exact List.length_pos_iff.2 dL
      have ht1:((tl:Int)==0)=false:=by simp;omega
      clear dL;go_wp2_with fail;go_meet;rw[vL.o];exact⟨cM.o,Rn.o,zd.o⟩
    case rest=>
     obtain⟨hb,hl,hm⟩:=hcut;generalize wc=wb at hb hl hm⊢;unfold eZ at hb;have cV:=Um hb;have HL2:=Um hl;have L1:=Um hm;have Ck:=Um (fun w=>tR s w);have T7:=Um (show Calls Tryz.prog 171 #[.func (.func 220) #[] #[.pointer (some ⟨wb.heap.size,0,none⟩)]] (wb.alloc (.cells #[.string s] 9)).drew (fun e w'=>(∃v,e=.returned v∧OS w' wb.heap.size v (bE s.data.toList))∧Up wb w') from(pC s (by omega) wb.drew).mono (fun e w' h=>⟨h.1,(Below.refl _ _).drew.trans h.2⟩));have ky:=Um (show(bE s.data.toList).length+l.length≤1000000 by
      have h1:=jr s.data.toList;have h2:s.data.toList.length=s.size:=Array.length_toList;omega)
     clear bc bf bz;obtain⟨bc,bf,bz⟩:=hb.facts;clear hb hl hm;go_wp2_with fail;have mixed:Tryz.prog.follows .mixedOrders=true:=by kernel_rfl
     go_region_law_o (first
      |(refine kI rfl rfl rfl rfl hrun ?_)
      |(go_simp;go_at_call 172;((with_reducible refine(Ck.o _).mono ?_);rintro e w3 ⟨rfl,rfl⟩))
      |(go_simp;go_at_call 171;((with_reducible refine T7.o.mono ?_);rintro e w4 ⟨⟨v,rfl,EG⟩,Ke⟩;have k4:=cV.o.ak Ke;obtain⟨a',n',c',W,hrun,lU,hab,lW⟩:=xS EG (HL2.o.ak Ke) ky.o Ke.size;have kW:=k4.gI lW cV.o.lt;obtain⟨c4,f4,z4⟩:=k4.facts;obtain⟨cW,fW,zW⟩:=kW.facts;have HX:=Um (ag lU (ag hab (ag kW (Ke.trans lW))));clear lU hab kW k4 Ke lW EG)))
     all_goals
      go_wp2_with fail;go_ret;obtain⟨lU,hab,kW,lS⟩:=HX.o;refine⟨L1.o.trans ((Hc lS).setCell (a:=⟨Bt,4,none⟩) (.inl rfl) _),.inr (.inr ⟨kA,HE.o,rfl,a',n',c',?_,lU.lP (fun b off h=>by have q1:=hab b off h;have q2:=cV.o.lt;omega) 4 _,fun b off h=>ae L1.o.size (hab b off h)⟩)⟩;rw[←Iw.o,HSLe.o,←sg.o];exact kW.set 4 _
end
end Go.Proofs.YtinflmadpnigfaaGreatDoor
