import Derived.ArgAppend
import Derived.Test.YtinflmadpnigfaaGreatDoorDY22
import Derived.Test.YtinflmadpnigfaaGreatDoorDY24
import Derived.Test.YtinflmadpnigfaaGreatDoorDY19
import Derived.Test.YtinflmadpnigfaaGreatDoorDY15
import Derived.Test.YtinflmadpnigfaaGreatDoorDY8
set_option linter.unusedVariables false
set_option linter.unusedSimpArgs false
set_option maxRecDepth 100000
set_option maxHeartbeats 16000000
namespace Go.Proofs.YtinflmadpnigfaaGreatDoor
section
open Go.RowKit
section
variable{w w':World}{pf pw:Nat}{R:Rp}{pv:Value}{Y:Sy}
theorem nM(h:bK w pf pw R pv Y){N:Nat}(hk:eb Y N)(hN:N≤99999)(u:Us)(ht:u.data.size≤100000)(hm:kl w){a:Option Addr}{c:Nat}{gs:List Gr}(hG:j0 w a c gs)(hO:rv gs)(hT:(aI (gs.map Gr.p)).length≤200000000) :
  Calls Tryz.prog 14 #[.pointer (some ⟨pf,0,none⟩),.agg #[.int .i64 u.u,.int .i64 u.g,.string u.data],.slice a gs.length c] w fun e w'=>e=.returned (.int .i64 (Y.du u (gs.map Gr.p)).2)∧gN w w' pf pw R pv (Y.du u (gs.map Gr.p)).1:=by
 obtain⟨hX,ax⟩:=Uo w #[.int .i64 u.u,.int .i64 u.g,.string u.data] 27;have hcn:0≤Y.count∧Y.count≤4611686018427387904:=⟨hk.c0,by have:=hk.cN;omega⟩;have hpl:Y.bD.length≤1000000:=by have:=hk.pl;omega
 have HC:=Um (rh u.u u.g u.data);have vd:=Um (fun w1 (hb:Up w w1)=>ku (h.ak hb) hk.fg (by omega) u ht (hm.ak hb));have HF:=Um (fun w1 (hb:Up w w1)=>nN a c gs w1 (hG.below hb (aa _)) hO);have HW:=Um (fun w1 (hb:Up w w1)=>qt a c gs w1 (hG.below hb (aa _)) hO hT);have yW:=Um (fun w1 (hb:Up w w1) no data hd=>CB (h.ak hb) hk.fg.ok (by omega) hcn hpl u.c no data hd);have HD:=Um (fun w1 (hb:Up w w1)=>uQ (h.ak hb) hk.fg.ok (by omega) hk.fg.pl hk.fg.wy u ht);have LB:=Um (fun w1 (hb:Up w w1) dir data hd=>rI (h.ak hb) hk.fg.ok (by omega) hcn hpl u.c dir dq 384 data (by decide) hd);have HY:=Um h;have Rd:=Um (show(str (aI (gs.map Gr.p))).size≤9223372036854775807 by rw[aP];omega);have HR:=Um (show Y.du u (gs.map Gr.p)=if(Y.fs.aV Y.dead u).2.2≠0 then(Y,(Y.fs.aV Y.dead u).2.2) else if bU (gs.map Gr.p)=false then(Y,1) else if(Y.fs.aV Y.dead u).2.1≠0 then Y.pW u.c (Y.fs.aV Y.dead u).2.1 (str (aI (gs.map Gr.p))) else Y.yp u (str (aI (gs.map Gr.p))) from rfl);have rq:=Um (show Y.yp u (str (aI (gs.map Gr.p)))=if(Y.fs.bL Y.dead u).2≠0 then(Y,(Y.fs.bL Y.dead u).2) else((Y.op (fun S now=>S.file u.c now (Y.fs.bL Y.dead u).1 dq 384 (str (aI (gs.map Gr.p))))).1,(Y.op (fun S now=>S.file u.c now (Y.fs.bL Y.dead u).1 dq 384 (str (aI (gs.map Gr.p))))).2.2) from rfl);have hwb:bU (gs.map Gr.p)=true→ca (gs.map Gr.p)=aI (gs.map Gr.p):=fun h=>by unfold ca;rw[if_pos h]
 generalize Y.fs.aV Y.dead u=ld at vd HR;obtain⟨lg,ln,le⟩:=ld;dsimp only at HR;generalize Y.fs.bL Y.dead u=dr at HD rq;obtain⟨dn,de⟩:=dr;dsimp only at HD rq;have M9:u.c=⟨u.u,u.g⟩:=rfl;rw[M9] at yW LB HR rq;dsimp only at yW LB;clear h hk hm hG hO hT M9;go_enter Tryz.func14,Tryz.ntmps14;go_upto_region 1 with fail;generalize w.alloc _=W0 at hX ax⊢;have aJ:=Um ax;have HX:=Um hX;obtain⟨xc,xf,xz⟩:=hX.facts;clear hX ax;go_wp2_with fail;refine(vd.o _ aJ.o).mono ?_;rintro e w1 ⟨⟨base,a1,c1,g1,-,-,rfl,-,-⟩,ar⟩;dsimp only;have cM:=Um (ao aJ.o ar);have qN:=HX.o.ak ar;have xI:=Um qN;clear ar xc xf xz;obtain⟨xc,xf,xz⟩:=qN.facts;clear qN;by_cases hle:le=0
 ·subst hle;have ik:=Um (HR.o.trans (if_neg (by decide)))
  cases hfb:bU (gs.map Gr.p) with
  |false=>
   have HE:=Um (ik.o.trans (if_pos hfb));rw[hfb] at HF;clear hfb hwb;go_wp2_with fail;refine(HF.o _ cM.o).mono ?_;rintro e w2 ⟨rfl,aD⟩;have cV:=Um (ao cM.o aD);clear aD;go_wp2_with fail;go_ret;rw[HE.o];exact⟨rfl,gN.of HY.o cV.o⟩
  |true=>
   have od:=Um (ik.o.trans (if_neg (by rw[hfb];decide)));rw[hfb] at HF;rw[hwb hfb] at HW;clear hfb hwb;generalize str (aI (gs.map Gr.p))=D at HW Rd od rq;go_wp2_with fail;refine(HF.o _ cM.o).mono ?_;rintro e w2 ⟨rfl,aD⟩;have cV:=Um (ao cM.o aD);have jO:=xI.o.ak aD;have lZ:=Um jO;clear aD xc xf xz;obtain⟨xc,xf,xz⟩:=jO.facts;clear jO;by_cases hln:ln=0
   ·have hlb:(ln != 0)=false:=by simpa using hln
    have l1:=Um ((od.o.trans (if_neg (by simpa using hln))).trans rq.o);clear hln;go_wp2_with fail;refine(HD.o _ cV.o).mono ?_;rintro e w3 ⟨rfl,bJ⟩;have ez:=Um (ao cV.o bJ);have iJ:=lZ.o.ak bJ;have qp:=Um iJ;clear bJ xc xf xz;obtain⟨xc,xf,xz⟩:=iJ.facts;clear iJ;by_cases hde:de=0
    ·subst hde;have HE:=Um (l1.o.trans (if_neg (by decide)));go_wp2_with fail;refine(HC.o _).mono ?_;rintro e w4 ⟨rfl,dI⟩;have oh:=Um (ao ez.o dI);clear dI xc xf xz;go_wp2_with fail;refine(HW.o _ oh.o).mono ?_;rintro e w5 ⟨rfl,b9⟩;have hZ:=Um (ao oh.o b9);clear b9;go_wp2_with fail;refine(LB.o _ hZ.o _ _ Rd.o).mono ?_;rintro e w6 ⟨rfl,R6,ED,lV⟩;have HQ:=Um (ag ED lV);clear ED lV;go_wp2_with fail;go_ret;rw[HE.o];exact⟨rfl,gN.after hZ.o ⟨R6,HQ.o.1,HQ.o.2⟩⟩
    ·have hdb:(de==0)=false:=by simpa using hde
     have hdb2:(de != 0)=true:=by simpa using hde
     have HE:=Um (l1.o.trans (if_pos hde));clear hde;go_wp2_with fail;go_ret;rw[HE.o];exact⟨rfl,gN.of HY.o ez.o⟩
   ·have hlb:(ln != 0)=true:=by simpa using hln
    have HE:=Um (od.o.trans (if_pos hln));clear hln;go_wp2_with fail;refine(HC.o _).mono ?_;rintro e w4 ⟨rfl,dI⟩;have oh:=Um (ao cV.o dI);clear dI xc xf xz;go_wp2_with fail;refine(HW.o _ oh.o).mono ?_;rintro e w5 ⟨rfl,b9⟩;have hZ:=Um (ao oh.o b9);clear b9;go_wp2_with fail;refine(yW.o _ hZ.o _ _ Rd.o).mono ?_;rintro e w6 ⟨rfl,R6,ED,lV⟩;have HQ:=Um (ag ED lV);clear ED lV;go_wp2_with fail;go_ret;rw[HE.o];exact⟨rfl,gN.after hZ.o ⟨R6,HQ.o.1,HQ.o.2⟩⟩
 ·have hlb:(le != 0)=true:=by simpa using hle
  have HE:=Um (HR.o.trans (if_pos hle));clear hle;go_wp2_with fail;go_ret;rw[HE.o];exact⟨rfl,gN.of HY.o cM.o⟩
end
section
variable{w w':World}{B pf:Nat}{R:Rf}{Y:Sy}
theorem qB(h:i' w B pf R Y){N:Nat}(hk:eb Y N)(hN:N≤99999)(u:Us)(ht:u.data.size≤100000){a:Option Addr}{c:Nat}{gs:List Gr}(hG:j0 w a c gs)(hO:rv gs)(hT:(aI (gs.map Gr.p)).length≤200000000) :
  Calls Tryz.prog 15 #[.pointer (some ⟨pf,0,none⟩),.agg #[.int .i64 u.u,.int .i64 u.g,.string u.data],.slice a gs.length c] w fun e w'=>e=.returned (.int .i64 (Y.du u (gs.map Gr.p)).2)∧dE w w' B pf R (Y.du u (gs.map Gr.p)).1:=by
 obtain⟨hX,ax⟩:=Uo w #[.int .i64 u.u,.int .i64 u.g,.string u.data] 27;have hcn:0≤Y.count∧Y.count≤4611686018427387904:=⟨hk.c0,by have:=hk.cN;omega⟩;have hpl:Y.bD.length≤1000000:=by have:=hk.pl;omega
 have hgl:Y.fs.ns.length≤100000:=by have h1:=hk.fg.pl.len;have h2:=hk.fg.ok.lN;omega
 have HC:=Um (qE u.u u.g u.data);have vd:=Um (fun w1 (hb:Up w w1)=>kp (h.ak hb).r hk.fg.ok h.dd u ht);have HF:=Um (fun w1 (hb:Up w w1)=>uH a c gs w1 (hG.below hb (aa _)) hO);have HW:=Um (fun w1 (hb:Up w w1)=>tn a c gs w1 (hG.below hb (aa _)) hO hT);have yW:=Um (fun w1 (hb:Up w w1) no data hd=>xT (h.ak hb) hk.fg.ok hcn hpl u.c no data hd);have HD:=Um (fun w1 (hb:Up w w1)=>tH (h.ak hb).r hk.fg.ok h.dd u ht);have LB:=Um (fun w1 (hb:Up w w1) dir data=>vA (h.ak hb) hk.fg.ok (by omega) hgl hcn hpl u.c dir dq (by decide) 384 data);have HY:=Um h;have Rd:=Um (show(str (aI (gs.map Gr.p))).size≤9223372036854775807 by rw[aP];omega);have HR:=Um (show Y.du u (gs.map Gr.p)=if(Y.fs.aV Y.dead u).2.2≠0 then(Y,(Y.fs.aV Y.dead u).2.2) else if bU (gs.map Gr.p)=false then(Y,1) else if(Y.fs.aV Y.dead u).2.1≠0 then Y.pW u.c (Y.fs.aV Y.dead u).2.1 (str (aI (gs.map Gr.p))) else Y.yp u (str (aI (gs.map Gr.p))) from rfl);have rq:=Um (show Y.yp u (str (aI (gs.map Gr.p)))=if(Y.fs.bL Y.dead u).2≠0 then(Y,(Y.fs.bL Y.dead u).2) else((Y.op (fun S now=>S.file u.c now (Y.fs.bL Y.dead u).1 dq 384 (str (aI (gs.map Gr.p))))).1,(Y.op (fun S now=>S.file u.c now (Y.fs.bL Y.dead u).1 dq 384 (str (aI (gs.map Gr.p))))).2.2) from rfl);have hwb:bU (gs.map Gr.p)=true→ca (gs.map Gr.p)=aI (gs.map Gr.p):=fun h=>by unfold ca;rw[if_pos h]
 generalize Y.fs.aV Y.dead u=ld at vd HR;obtain⟨lg,ln,le⟩:=ld;dsimp only at HR;generalize Y.fs.bL Y.dead u=dr at HD rq;obtain⟨dn,de⟩:=dr;dsimp only at HD rq;have M9:u.c=⟨u.u,u.g⟩:=rfl;rw[M9] at yW LB HR rq;dsimp only at yW LB;clear h hk hG hO hT M9;go_enter Tryz.func15,Tryz.ntmps15;go_upto_region 1 with fail;generalize w.alloc _=W0 at hX ax⊢;have aJ:=Um ax;have HX:=Um hX;obtain⟨xc,xf,xz⟩:=hX.facts;clear hX ax;go_wp2_with fail;refine(vd.o _ aJ.o).mono ?_;rintro e w1 ⟨⟨base,a1,c1,g1,-,-,rfl,-,-⟩,ar⟩;dsimp only;have cM:=Um (ao aJ.o ar);have qN:=HX.o.ak ar;have xI:=Um qN;clear ar xc xf xz;obtain⟨xc,xf,xz⟩:=qN.facts;clear qN;by_cases hle:le=0
 ·subst hle;have ik:=Um (HR.o.trans (if_neg (by decide)))
  cases hfb:bU (gs.map Gr.p) with
  |false=>
   have HE:=Um (ik.o.trans (if_pos hfb));rw[hfb] at HF;clear hfb hwb;go_wp2_with fail;refine(HF.o _ cM.o).mono ?_;rintro e w2 ⟨rfl,aD⟩;have cV:=Um (ao cM.o aD);clear aD;go_wp2_with fail;go_ret;rw[HE.o];exact⟨rfl,dE.of HY.o cV.o⟩
  |true=>
   have od:=Um (ik.o.trans (if_neg (by rw[hfb];decide)));rw[hfb] at HF;rw[hwb hfb] at HW;clear hfb hwb;generalize str (aI (gs.map Gr.p))=D at HW Rd od rq;go_wp2_with fail;refine(HF.o _ cM.o).mono ?_;rintro e w2 ⟨rfl,aD⟩;have cV:=Um (ao cM.o aD);have jO:=xI.o.ak aD;have lZ:=Um jO;clear aD xc xf xz;obtain⟨xc,xf,xz⟩:=jO.facts;clear jO;by_cases hln:ln=0
   ·have hlb:(ln != 0)=false:=by simpa using hln
    have l1:=Um ((od.o.trans (if_neg (by simpa using hln))).trans rq.o);clear hln;go_wp2_with fail;refine(HD.o _ cV.o).mono ?_;rintro e w3 ⟨rfl,bJ⟩;have ez:=Um (ao cV.o bJ);have iJ:=lZ.o.ak bJ;have qp:=Um iJ;clear bJ xc xf xz;obtain⟨xc,xf,xz⟩:=iJ.facts;clear iJ;by_cases hde:de=0
    ·subst hde;have HE:=Um (l1.o.trans (if_neg (by decide)));go_wp2_with fail;refine(HC.o _).mono ?_;rintro e w4 ⟨rfl,dI⟩;have oh:=Um (ao ez.o dI);clear dI xc xf xz;go_wp2_with fail;refine(HW.o _ oh.o).mono ?_;rintro e w5 ⟨rfl,b9⟩;have hZ:=Um (ao oh.o b9);clear b9;go_wp2_with fail;refine(LB.o _ hZ.o _ _).mono ?_;rintro e w6 ⟨rfl,R6,ED,lV⟩;have HQ:=Um (ag ED lV);clear ED lV;go_wp2_with fail;go_ret;rw[HE.o];exact⟨rfl,dE.after hZ.o ⟨R6,HQ.o.1,HQ.o.2⟩⟩
    ·have hdb:(de==0)=false:=by simpa using hde
     have hdb2:(de != 0)=true:=by simpa using hde
     have HE:=Um (l1.o.trans (if_pos hde));clear hde;go_wp2_with fail;go_ret;rw[HE.o];exact⟨rfl,dE.of HY.o ez.o⟩
   ·have hlb:(ln != 0)=true:=by simpa using hln
    have HE:=Um (od.o.trans (if_pos hln));clear hln;go_wp2_with fail;refine(HC.o _).mono ?_;rintro e w4 ⟨rfl,dI⟩;have oh:=Um (ao cV.o dI);clear dI xc xf xz;go_wp2_with fail;refine(HW.o _ oh.o).mono ?_;rintro e w5 ⟨rfl,b9⟩;have hZ:=Um (ao oh.o b9);clear b9;go_wp2_with fail;refine(yW.o _ hZ.o _ _ Rd.o).mono ?_;rintro e w6 ⟨rfl,R6,ED,lV⟩;have HQ:=Um (ag ED lV);clear ED lV;go_wp2_with fail;go_ret;rw[HE.o];exact⟨rfl,dE.after hZ.o ⟨R6,HQ.o.1,HQ.o.2⟩⟩
 ·have hlb:(le != 0)=true:=by simpa using hle
  have HE:=Um (HR.o.trans (if_pos hle));clear hle;go_wp2_with fail;go_ret;rw[HE.o];exact⟨rfl,dE.of HY.o cM.o⟩
end
end
section
open Go.RowKit
theorem kX(g:Gr):∀u∈g.cs,u.oneCell'=true:=by
 intro u hu;simp[Gr.cs] at hu;rcases hu with rfl|rfl<;>rfl
theorem ya{w:World}{base n:Nat}{v:Value}{l:List Gr}(h:w.ownsRow base 45 2 v n (l.flatMap Gr.cs))(ha:∀g∈l,g.At w):∃a c,v=.slice a l.length c∧j0 w a c l:=by
 obtain⟨a,c,rfl,-⟩:=bw h;have hs:=bW (R:=P4) (by omega) Gr.bt (fun _=>rfl) h;have hn:=hs.1;subst hn;exact⟨a,c,rfl,hs,ha⟩
theorem OG.Q9{w:World}{base:Nat}{v:Value}{gs:List Gr}(h:OG w base v gs):∀g∈gs,g.At w:=fun g hg=>by
 obtain⟨i,hi,rfl⟩:=List.mem_iff_getElem.1 hg;exact bW (R:=Ig) (by omega) Nt.bt (fun _=>rfl) (h.notes i hi)
theorem OG.appP{w:World}{base c:Nat}{a:Option Addr}{gs:List Gr}(h:OG w base (.slice a gs.length c) gs)(hl:gs.length≤10000000)(g:Gr)(hg:g.At w) :
  ∃a' c' W,(Builtin.append_ #[38,38] 38 #[.slice a gs.length gs.length,.slice (some ⟨w.heap.size,0,none⟩) 1 1]).run Tryz.prog (w.alloc (.cells #[.slice g.a g.notes.length g.c,.int .u8 g.fin.toNat] 45))=.ok (.slice a' (gs++[g]).length c') W∧
   j0 W a' c' (gs++[g])∧Up w W:=by
 obtain⟨i0,hi,iU,gx,fT⟩:=info_parts pS;have hA:=(Below.refl _ w).alloc (aa _) (.cells #[.slice g.a g.notes.length g.c,.int .u8 g.fin.toNat] 45);have hsz:w.heap.size≤(w.alloc (.cells #[.slice g.a g.notes.length g.c,.int .u8 g.fin.toNat] 45)).heap.size:=hA.size;have h2:=h.ak hA;have hnews:=World.news_of_block (au.new w g.cs.toArray 45);have key:∀v' W,W.ownsRow w.heap.size 45 2 v' (gs.length+1) (gs.flatMap Gr.cs++g.cs)→Up w W→∃a' c',v'=.slice a' (gs++[g]).length c'∧j0 W a' c' (gs++[g]):=fun v' W ho hb=>
  ya (by rw[List.flatMap_append,List.flatMap_cons,List.flatMap_nil,List.append_nil];exact ho) (fun g' hg'=>by
   rcases List.mem_append.1 hg' with h1|h1
   ·exact(h.Q9 g' h1).below hb (aa _)
   ·rw[List.mem_singleton.1 h1];exact hg.below hb (aa _))
 obtain⟨a0,c0,e0,-,-,h0⟩:=h.form;injection e0 with e0 _ e1;subst e0 e1;rcases h0 with⟨rfl,hn,-⟩|⟨b,rfl,hb,hlt⟩
 ·have hgs:gs=[]:=List.eq_nil_of_length_eq_zero hn;subst hgs;obtain⟨g',cap,W,h3,h4,h5,h6⟩:=cX 38 Tryz.underlying38 hi iU gx fT rfl (by omega) (World.ownsRow_nil (w.alloc (.cells #[.slice g.a g.notes.length g.c,.int .u8 g.fin.toNat] 45)) w.heap.size 45 2) ⟨w.heap.size,0,none⟩ 1 1 g.cs rfl hnews (kX g) (by omega) (by unfold maxLen;omega) (by omega) hsz;have aD:Up w W:=hA.trans (h5.below (fun k hk=>by cases hk) hsz);obtain⟨a',c',e,hG⟩:=key _ _ h4 aD;exact⟨a',c',W,by rw[←e];exact h3,hG,aD⟩
 ·have holds:∀j u,(gs.flatMap Gr.cs)[j]?=some u→(w.alloc (.cells #[.slice g.a g.notes.length g.c,.int .u8 g.fin.toNat] 45)).cell? ((⟨b,0,none⟩:Addr).add j)=some u:=by
   have:=tM (enc:=Gr.cs) (by omega) Gr.bt h2.own 0 gs.length (by omega);simpa using this
  obtain⟨v',W,h3,h4,h5⟩:=run_append_arg_grows (w:=w.alloc (.cells #[.slice g.a g.notes.length g.c,.int .u8 g.fin.toNat] 45)) 38 38 45 i0 _ 2 32 Tryz.underlying38 hi iU gx fT rfl (by omega) ⟨b,0,none⟩ gs.length gs.length (gs.flatMap Gr.cs) (bC Gr.bt gs) holds
   ⟨w.heap.size,0,none⟩ 1 1 g.cs rfl hnews (by omega) (by unfold maxLen;omega) (by omega)
  have aD:Up w W:=hA.trans ((nY h5).below (fun k hk=>by cases hk) hsz);obtain⟨a',c',e,hG⟩:=key _ _ ⟨h4.1,h4.2.imp id fun⟨g1,cap,cur,hv,hbb,rest⟩=>⟨g1,cap,cur,hv,ae hsz hbb,rest⟩⟩ aD;exact⟨a',c',W,by rw[←e];exact h3,hG,aD⟩
def Gr.fresh(g:Gr):Gr:=⟨g.a,g.c,g.notes,0⟩
theorem OG.Tw{w:World}{base c:Nat}{a:Option Addr}{gs:List Gr}(h:OG w base (.slice a gs.length c) gs)(hl:gs.length≤10000000)(g:Gr)(hg:g.At w) :
  ∃a' c' W,(Builtin.append_ #[38,38] 38 #[.slice a gs.length gs.length,.slice (some ⟨w.heap.size,0,none⟩) 1 1]).run Tryz.prog (w.alloc (.cells #[.slice g.a g.notes.length g.c,.int .u8 0] 45))=.ok (.slice a' (gs++[g.fresh]).length c') W∧
   j0 W a' c' (gs++[g.fresh])∧Up w W:=h.appP hl g.fresh hg
theorem OG.appR{w:World}{base:Nat}{v:Value}{gs:List Gr}(h:OG w base v gs)(hl:gs.length≤10000000)(hb:base≤w.heap.size)(g:Gr)(hg:∀W,Below base w W→g.At W) :
  ∃a' c' W,(Builtin.append_ #[38,38] 38 #[v,.slice (some ⟨w.heap.size,0,none⟩) 1 1]).run Tryz.prog (w.alloc (.cells #[.slice g.a g.notes.length g.c,.int .u8 g.fin.toNat] 45))=.ok (.slice a' (gs++[g]).length c') W∧
   j0 W a' c' (gs++[g])∧Below base w W:=by
 obtain⟨i0,hi,iU,gx,fT⟩:=info_parts pS;have h2:=h.ak ((Below.refl _ w).alloc (aa _) (.cells #[.slice g.a g.notes.length g.c,.int .u8 g.fin.toNat] 45));obtain⟨g',cap,W,h3,h4,h5,h6⟩:=cX 38 Tryz.underlying38 hi iU gx fT rfl (by omega) h2.own ⟨w.heap.size,0,none⟩ 1 1 g.cs rfl (World.news_of_block (au.new w g.cs.toArray 45)) (kX g) (by omega) (by unfold maxLen;omega) (by omega) (by simp;omega);have aD:Below base w W:=((Below.refl base w).alloc hb _).trans (h5.below (fun k hk=>(fP h2.own hk).1) (by simp;omega));obtain⟨a',c',e,hG⟩:=ya (l:=gs++[g]) (by rw[List.flatMap_append,List.flatMap_cons,List.flatMap_nil,List.append_nil];exact h4) (fun g1 A9=>by
  rcases List.mem_append.1 A9 with h1|h1
  ·obtain⟨i,hi,rfl⟩:=List.mem_iff_getElem.1 h1;exact bW (R:=Ig) (by omega) Nt.bt (fun _=>rfl) (bq (h2.notes i hi) h5 (fun k hk=>fD rL h2.own (h2.notes i hi) hk))
  ·rw[List.mem_singleton.1 h1];exact hg W aD)
 exact⟨a',c',W,by rw[←e];exact h3,hG,aD⟩
theorem OG.Tv{w:World}{base:Nat}{v:Value}{gs:List Gr}(h:OG w base v gs)(hl:gs.length≤10000000)(hb:base≤w.heap.size)(g:Gr)(hg:∀W,Below base w W→g.At W) :
  ∃a' c' W,(Builtin.append_ #[38,38] 38 #[v,.slice (some ⟨w.heap.size,0,none⟩) 1 1]).run Tryz.prog (w.alloc (.cells #[.slice g.a g.notes.length g.c,.int .u8 0] 45))=.ok (.slice a' (gs++[g.fresh]).length c') W∧
   j0 W a' c' (gs++[g.fresh])∧Below base w W:=h.appR hl hb g.fresh hg
theorem OG.Tt{w:World}{base c:Nat}{a:Option Addr}{gs:List Gr}(h:OG w base (.slice a gs.length c) gs)(k:Nat)(hk:k≤gs.length)(hl:gs.length≤10000000) :
  ∃a' c' W,(Builtin.append_ #[38,38] 38 #[.slice none 0 0,.slice a k c]).run Tryz.prog w=.ok (.slice a' k c') W∧
   W.ownsRow w.heap.size 45 2 (.slice a' k c') k ((gs.take k).flatMap Gr.cs)∧Up w W:=by
 obtain⟨i0,hi,iU,gx,fT⟩:=info_parts pS;rcases Nat.eq_zero_or_pos k with rfl|hpos
 ·exact⟨none,0,w,gT (base:=base) (sz:=2) (n:=0) (xs:=[]) 38 Tryz.underlying38 hi (World.ownsRow_nil _ _ _ _) _ _,World.ownsRow_nil _ _ _ _,Below.refl _ _⟩
 ·obtain⟨a0,c0,e0,-,-,h0⟩:=h.form;injection e0 with e0 _ e1;subst e0 e1;rcases h0 with⟨rfl,hn,-⟩|⟨b,rfl,hb,hlt⟩
  ·omega
  ·have hnews:∀j u,((gs.take k).flatMap Gr.cs)[j]?=some u→w.cell? ((⟨b,0,none⟩:Addr).add j)=some u:=by
    have:=tM (enc:=Gr.cs) (by omega) Gr.bt h.own 0 k (by omega);simpa using this
   obtain⟨g,cap,W,h3,h4,h5,h6⟩:=cX 38 Tryz.underlying38 hi iU gx fT rfl (by omega) (World.ownsRow_nil w w.heap.size 45 2) ⟨b,0,none⟩ k c ((gs.take k).flatMap Gr.cs) (by rw[bC Gr.bt,List.length_take,Nat.min_eq_left hk]) hnews
    (by intro u hu;obtain⟨x,-,hx⟩:=List.mem_flatMap.1 hu;exact kX x u hx) hpos (by unfold maxLen;omega) (by omega) (aa _)
   rw[Nat.zero_add,List.nil_append] at h4;rw[Nat.zero_add] at h3;exact⟨some ⟨g,0,none⟩,cap,W,h3,h4,h5.below (fun j hj=>by cases hj) (aa _)⟩
theorem Jr{w w0:World}{base n:Nat}{v:Value}{l:List Gr}(ho:w.ownsRow base 45 2 v n (l.flatMap Gr.cs))(hn:n≤10000000)(h0:w0.heap.size≤base)(hbl:Up w0 w)(hbw:base≤w.heap.size)(hl:∀g∈l,g.At w0)(x:Gr)(hx:x.At w0) :
  ∃a' c' W,(Builtin.append_ #[38,38] 38 #[v,.slice (some ⟨w.heap.size,0,none⟩) 1 1]).run Tryz.prog (w.alloc (.cells #[.slice x.a x.notes.length x.c,.int .u8 x.fin.toNat] 45))=.ok (.slice a' (l++[x]).length c') W∧
   j0 W a' c' (l++[x])∧Below base w W:=by
 obtain⟨i0,hi,iU,gx,fT⟩:=info_parts pS;have h2:=bY ho ((Below.refl _ w).alloc (aa _) (.cells #[.slice x.a x.notes.length x.c,.int .u8 x.fin.toNat] 45)) (aa _);obtain⟨g',cap,W,h3,h4,h5,h6⟩:=cX 38 Tryz.underlying38 hi iU gx fT rfl (by omega) h2 ⟨w.heap.size,0,none⟩ 1 1 x.cs rfl (World.news_of_block (au.new w x.cs.toArray 45)) (kX x) (by omega) (by unfold maxLen;omega) (by omega) (by simp;omega);have aD:Below base w W:=((Below.refl base w).alloc hbw _).trans (h5.below (fun k hk=>(fP h2 hk).1) (by simp;omega));have bJ:Up w0 W:=hbl.trans (aD.mono h0);obtain⟨a',c',e,hG⟩:=ya (l:=l++[x]) (by rw[List.flatMap_append,List.flatMap_cons,List.flatMap_nil,List.append_nil];exact h4) (fun g1 A9=>by
  rcases List.mem_append.1 A9 with h1|h1
  ·exact(hl g1 h1).below bJ (aa _)
  ·rw[List.mem_singleton.1 h1];exact hx.below bJ (aa _))
 exact⟨a',c',W,by rw[←e];exact h3,hG,aD⟩
theorem j0.take{w:World}{a:Option Addr}{c:Nat}{gs:List Gr}(h:j0 w a c gs)(k:Nat)(hk:k≤gs.length):j0 w a c (gs.take k):=by
 have hlen:(gs.take k).length=k:=by rw[List.length_take,Nat.min_eq_left hk]
 obtain⟨-,h2,h3,h4⟩:=h.sl;refine⟨⟨rfl,by omega,h3,?_⟩,fun g hg=>h.at' g (List.mem_of_mem_take hg)⟩;rcases h4 with h4|⟨b,off,he,hlt,hel⟩
 ·left;omega
 ·refine .inr ⟨b,off,he,hlt,fun i hi=>?_⟩;obtain⟨cs,h5,h6,h7⟩:=hel i (by omega);exact⟨cs,h5,by rw[List.getElem_take];exact h6,h7⟩
theorem Bl{α:Type}{enc:α→List Value}{sz:Nat}(hl:∀x,(enc x).length=sz):∀(l:List α) (k j:Nat) (hk:k<l.length),j<sz→∀(y:α) (v:Value),enc y=(enc l[k]).set j v→(l.flatMap enc).set (k*sz+j) v=(l.set k y).flatMap enc
 | [],k,_,hk,_,_,_,_=>by simp at hk
 |a::l,0,j,_,hj,y,v,h=>by
  simp only[ai,List.flatMap_cons,Nat.zero_mul,Nat.zero_add];rw[List.set_append_left _ _ (by rw[hl];exact hj),h];rfl
 |a::l,k+1,j,hk,hj,y,v,h=>by
  simp only[aj,List.flatMap_cons];rw[List.set_append_right _ _ (by rw[hl,Nat.succ_mul];omega),hl,show(k+1)*sz+j-sz=k*sz+j by rw[Nat.succ_mul];omega,Bl hl l k j (by simpa using hk) hj y v (by simpa using h)]
theorem OG.cell{w:World}{base b c:Nat}{gs:List Gr}(h:OG w base (.slice (some ⟨b,0,none⟩) gs.length c) gs)(k:Nat)(hk:k<gs.length){nb:Nat}(ha:gs[k].a=some ⟨nb,0,none⟩)(i:Nat)(hi:i<gs[k].notes.length)(j:Nat)(hj:j<5)(x':Nt)(v:Value)
  (hx:x'.cs=(gs[k].notes[i]).cs.set j v) :
  OG (w.setCell ⟨nb,i*5+j,none⟩ v) base (.slice (some ⟨b,0,none⟩) gs.length c) (gs.set k {gs[k] with notes:=gs[k].notes.set i x'}):=by
 have hm:=(Mod.refl (fun q=>q=nb) w).setCell (a:=⟨nb,i*5+j,none⟩) (.inl rfl) v;have hcs:({gs[k] with notes:=gs[k].notes.set i x'}:Gr).cs=gs[k].cs:=by unfold Gr.cs;simp only[List.length_set]
 have hfl:(gs.set k {gs[k] with notes:=gs[k].notes.set i x'}).flatMap Gr.cs=gs.flatMap Gr.cs:=by
  rw[List.flatMap_def,List.flatMap_def,List.map_set,hcs];congr 1;have h1:k<(gs.map Gr.cs).length:=by rw[List.length_map];exact hk
  have h2:(gs.map Gr.cs)[k]=gs[k].cs:=List.getElem_map _;rw[←h2,List.set_getElem_self]
 have hown:(Value.slice gs[k].a gs[k].notes.length gs[k].c).ownBlock=some nb:=by rw[ha];rfl
 refine⟨?_,fun q hq=>?_,fun p q hp hq hpq he=>?_⟩
 ·rw[List.length_set,hfl];exact bq h.own hm (fun q hq=>by subst hq;exact fD (Ne.symm rL) (h.notes k hk) h.own hown)
 ·rw[List.length_set] at hq;rw[List.getElem_set]
  split
  ·have h1:=h.notes k hk;unfold NR at h1⊢;simp only[List.length_set];rw[ha] at h1⊢;rw[←Bl Nt.bt _ i j hi hj x' v hx];exact tN h1 _ (by rw[bC Nt.bt];omega) _
  ·rename_i e;refine bq (h.notes q hq) hm (fun q2 zj=>?_);subst zj;intro h3;have h4:=h.sep k q hk hq e
   cases hqa:gs[q].a with
   |none=>rw[hqa] at h3;cases h3
   |some a2=>
    have h5:=h.notes q hq;obtain⟨e6,-⟩:=NR.block h5 hqa;rw[hqa] at h3;simp only[Value.ownBlock,Option.some.injEq] at h3;rw[h3] at e6;rw[ha,hqa,e6] at h4;exact absurd (h4 rfl) (by simp)
 ·rw[List.length_set] at hp hq;have key:∀i1 (Nh:i1<gs.length),((gs.set k {gs[k] with notes:=gs[k].notes.set i x'})[i1]'(by rw[List.length_set];exact Nh)).a=gs[i1].a:=fun i1 Nh=>by
   rw[List.getElem_set];split
   ·rename_i e;subst e;rfl
   ·rfl
  rw[key p hp,key q hq] at he;rw[key p hp];exact h.sep p q hp hq hpq he
end
section
open Go.RowKit Go.Shelf
theorem fk{gs:List Gr}(h:0<gs.length):(gs.map Gr.p).getLast?=some (gs[gs.length-1]'(by omega)).p:=by
 rw[List.getLast?_eq_getElem?,List.length_map,List.getElem?_map,List.getElem?_eq_getElem (by omega)];rfl
theorem CN{a:Option Addr}{n c:Nat}(ha:a=none∨∃b,a=some ⟨b,0,none⟩)(hc:n≤c)(w:World):(Instr.sliceAt 38 (.slice a n c) none (some (.int .i64 (n:Int))) (some (.int .i64 (n:Int)))).run Tryz.prog w=.ok (.slice a n n) w:=by
 rcases ha with rfl|⟨b,rfl⟩<;>by_cases h0:n=0<;>simp[go_sem,h0,hc,Tryz.underlying38]
theorem kn(gs:List Gr):gs.length≤(aI (gs.map Gr.p)).length:=by
 induction gs with
 |nil=>exact Nat.zero_le _
 |cons g gs ih=>
  rw[List.map_cons];show gs.length+1≤(fq g.p++aI (gs.map Gr.p)).length;rw[List.length_append];have:1≤(fq g.p).length:=by unfold fq;simp
  omega
section
variable{w w':World}{pf pw:Nat}{R:Rp}{pv:Value}{Y:Sy}
theorem DN(h:bK w pf pw R pv Y){N:Nat}(hk:eb Y N)(hN:N≤99999)(u:Us)(ht:u.data.size≤100000)(hm:kl w)(g:Gr)(hg:g.At w)(Ce:∀x∈g.notes,x.Ok)(On:(aI [(g.notes,0)]).length≤100000) :
  Calls Tryz.prog 8 #[.pointer (some ⟨pf,0,none⟩),.agg #[.int .i64 u.u,.int .i64 u.g,.string u.data],.slice g.a g.notes.length g.c] w fun e w'=>e=.returned (.int .i64 (Y.iZ u g.notes).2)∧gN w w' pf pw R pv (Y.iZ u g.notes).1:=by
 obtain⟨hX,ax⟩:=Uo w #[.int .i64 u.u,.int .i64 u.g,.string u.data] 27;have vd:=Um (fun w1 (hb:Up w w1)=>ku (h.ak hb) hk.fg (by omega) u ht (hm.ak hb));have Iq:=Um (fun w1 (hb:Up w w1) (a:Option Addr) (c:Nat) (gs:List Gr) (hG:j0 w1 a c gs) (hO:rv gs) (hT:(aI (gs.map Gr.p)).length≤200000000)=>nM (h.ak hb) hk hN u ht (hm.ak hb) hG hO hT);have HY:=Um h;have lD:=Um (js hk.fg.ok Y.dead u).2;have HR:=Um (show Y.iZ u g.notes=if(Y.fs.aV Y.dead u).2.2≠0 then(Y,(Y.fs.aV Y.dead u).2.2) else if(Y.fs.aV Y.dead u).1.getLast?.any (fun g=>g.2 != 101)=true then(Y,16) else Y.du u ((Y.fs.aV Y.dead u).1++[(g.notes,0)]) from rfl);have HG:=Um (ag hg (ag Ce On));generalize Y.fs.aV Y.dead u=ld at vd HR lD;obtain⟨lg,ln,le⟩:=ld;dsimp only at HR lD;clear h hk hm hg Ce On;go_enter Tryz.func8,Tryz.ntmps8;go_upto_region 1 with fail;generalize w.alloc _=W0 at hX ax⊢;have aJ:=Um ax;have HX:=Um hX;obtain⟨xc,xf,xz⟩:=hX.facts;clear hX ax;go_wp2_with fail;refine(vd.o _ aJ.o).mono ?_;rintro e w1 ⟨⟨base,a1,c1,g1,hbs,mC,rfl,fK,lj⟩,ar⟩;dsimp only at mC⊢;subst mC;have cM:=Um (ao aJ.o ar);have qN:=HX.o.ak ar;have xI:=Um qN;have D6:=Um (ag fK lj);clear ar xc xf xz;obtain⟨xc,xf,xz⟩:=qN.facts;clear qN;by_cases hle:le=0
 ·subst hle;have ik:=Um (HR.o.trans (if_neg (by decide)));have gO:=kn g1;have jj:=lD.o;have lh:g1.length≤c1:=fK.n8.sl.2.1;obtain⟨a0,c0,e0,-,GJ,uq⟩:=fK.form;injection e0 with e0 _ e1;subst e0 e1;have nR:a1=none∨∃b,a1=some ⟨b,0,none⟩:=by
   rcases uq with⟨h,-⟩|⟨b,h,-⟩
   ·exact .inl h
   ·exact .inr ⟨b,h⟩
  have EZ:=Um (fun w=>CN (w:=w) nR lh);by_cases hend:(g1.map Gr.p).getLast?.any (fun g=>g.2 != 101)=true
  ·have HE:=Um (ik.o.trans (if_pos hend));rcases Nat.eq_zero_or_pos g1.length with h0|hpos
   ·rw[List.eq_nil_of_length_eq_zero h0] at hend;exact absurd hend (by decide)
   ·rw[fk hpos] at hend;have hfin:(g1[g1.length-1]'(by omega)).fin≠101:=by simpa [Gr.p] using hend
    have hfi:¬((g1[g1.length-1]'(by omega)).fin.toNat:Int)=101:=fun e=>hfin (UInt8.toNat_inj.1 (by show _=101;omega));have hfb:(((g1[g1.length-1]'(by omega)).fin.toNat:Int) != 101)=true:=by simpa using hfi
    rcases uq with⟨-,h0,-⟩|⟨b,rfl,hbb,hblt⟩
    ·omega
    obtain⟨cA,cB,cz⟩:=fK.n8.cells (g1.length-1) (by omega);rw[Nat.zero_add] at cA cB;generalize (g1[g1.length-1]'(by omega)).fin=fin at cB hfi hfb;have GF:(0:Int)<(g1.length:Int):=by omega
    have M8:(1:Int)≤(g1.length:Int):=by omega
    have Cb:(0:Int)≤(g1.length:Int)-1:=by omega
    have J2:(g1.length:Int)-1<(g1.length:Int):=by omega
    have J1:((g1.length:Int)-1).toNat=g1.length-1:=by omega
    clear fK lj hend hfin nR;go_wp2_with fail;go_ret;rw[HE.o];exact⟨rfl,gN.of HY.o cM.o⟩
  ·have HE:=Um (ik.o.trans (if_neg hend));have hGd:=HG.o.1.below cM.o (aa _);rcases Nat.eq_zero_or_pos g1.length with h0|hpos
   all_goals first
    |(
     have GF:¬(0:Int)<(g1.length:Int):=by omega
     clear fK lj hend uq nR h0;go_upto_region 6 with fail)
    |(
     rw[fk hpos] at hend;have hfin:(g1[g1.length-1]'(by omega)).fin=101:=by simpa [Gr.p] using hend
     have hfi:((g1[g1.length-1]'(by omega)).fin.toNat:Int)=101:=by rw[hfin];rfl
     have hfb:(((g1[g1.length-1]'(by omega)).fin.toNat:Int) != 101)=false:=by simpa using hfi
     obtain⟨b,rfl,hbb,hblt⟩:=uq.resolve_left (fun h=>by have:=h.2.1;omega);obtain⟨cA,cB,cz⟩:=fK.n8.cells (g1.length-1) (by omega);rw[Nat.zero_add] at cA cB;generalize (g1[g1.length-1]'(by omega)).fin=fin at cB hfi hfb;have GF:(0:Int)<(g1.length:Int):=by omega
     have M8:(1:Int)≤(g1.length:Int):=by omega
     have Cb:(0:Int)≤(g1.length:Int)-1:=by omega
     have J2:(g1.length:Int)-1<(g1.length:Int):=by omega
     have J1:((g1.length:Int)-1).toNat=g1.length-1:=by omega
     clear fK lj hend hfin nR;go_upto_region 6 with fail;clear cA cB cz hfi hfb)
   all_goals
    refine wp_region_held_drew (S:=fun w'=>au w' w.heap.size #[.int .i64 u.u,.int .i64 u.g,.string u.data] 27) (by kernel_rfl) (xI.o.ak (Below.refl _ w1).drew) (fun cE=>?_);refine bH 10 [(0,35),(1,36),(2,37),(3,38),(4,39),(5,40),(6,41),(7,42),(8,43),(9,44)] (by kernel_rfl) (by kernel_rfl) rfl (fun _ _ _ _ _ h=>h) cE ?_
    iterate 10 (apply bo rfl rfl;(· (intro w9 dG;obtain⟨xc,-,-⟩:=dG.facts;have hsl:=EZ.o w9;clear dG;go_simp;(try with_reducible rfl)));simp only[ah,ai,aj])
    refine bG ?_;have hD:=(Uq w1).drew;obtain⟨a2,c2,W2,hrun,km,aD⟩:=(D6.o.1.ak hD).Tw (by omega) g (hGd.below hD (aa _));have GK:=(Below.refl w1.drew.heap.size w1.drew).alloc (aa _) (.cells #[.slice g.a g.notes.length g.c,.int .u8 0] 45);refine pq 10 45 (v:=.slice (some ⟨w1.drew.heap.size,0,none⟩) 1 1) (W:=w1.drew.alloc (.cells #[.slice g.a g.notes.length g.c,.int .u8 0] 45)) (by kernel_rfl) rfl rfl rfl ?z (cE.ak GK) ?_
    case z=>(go_simp;(try rfl))
    have jO:=cE.ak aD;simp only[ah,ai,aj];refine sE 11 46 (by kernel_rfl) rfl rfl rfl rfl rfl rfl hrun jO ?_;simp only[ah,ai,aj];have bJ:=ao cM.o (hD.trans (aD.mono hD.size));have iW:rv (g1++[g.fresh]):=fun y hy=>by
     rcases List.mem_append.1 hy with hy|hy
     ·exact D6.o.2 y hy
     ·rw[List.mem_singleton.1 hy];exact HG.o.2.1
    have lR:(g1++[g.fresh]).map Gr.p=g1.map Gr.p++[(g.notes,0)]:=by rw[List.map_append];rfl
    have pQ:(aI ((g1++[g.fresh]).map Gr.p)).length≤200000000:=by
     rw[lR,jz,List.length_append];have:=HG.o.2.2;omega
    refine dw 12 47 (R:=fun v w'=>v=.int .i64 (Y.du u (g1.map Gr.p++[(g.notes,0)])).2∧gN W2 w' pf pw R pv (Y.du u (g1.map Gr.p++[(g.notes,0)])).1) (by kernel_rfl) rfl rfl rfl ?xa ((Iq.o _ bJ a2 c2 _ km iW pQ).mono (fun e w' ⟨he,hw⟩=>⟨_,he,by rw[lR],by rw[lR] at hw;exact hw⟩)) (fun v w' ⟨_,R',_,hs⟩=>jO.sy (HY.o.ak bJ) hs (by decide) (by decide)) ?_
    case xa=>(go_simp;(try rfl))
    rintro _ w3 ⟨rfl,hgo⟩;simp only[ah,ai,aj];have mG:au w3 w.heap.size #[.int .i64 u.u,.int .i64 u.g,.string u.data] 27:=by
     obtain⟨R',-,hs⟩:=hgo;exact jO.sy (HY.o.ak bJ) hs (by decide) (by decide)
    refine bH 1 [(13,6)] (by kernel_rfl) (by kernel_rfl) rfl (fun _ _ _ _ _ h=>h) mG ?_
    iterate 1 (apply bo rfl rfl;(· (intro w9 dG;clear dG;go_simp;(try with_reducible rfl)));simp only[ah,ai,aj])
    refine bG ?_;refine wpAnyH_done (by kernel_rfl) ?_ _;have si:=Um (hgo.after bJ);clear cE mG hgo jO aD km hrun;go_wp2_with fail;go_ret;rw[HE.o];exact⟨rfl,si.o⟩
 ·have hlb:(le != 0)=true:=by simpa using hle
  have HE:=Um (HR.o.trans (if_pos hle));clear hle fK lj;go_wp2_with fail;go_ret;rw[HE.o];exact⟨rfl,gN.of HY.o cM.o⟩
end
end
section
open Go.RowKit
section
variable{w w':World}{B pf:Nat}{R:Rf}{Y:Sy}
theorem AG:∀(l:List Int) (a b:Int),l.Pairwise (· < ·)→(∀x∈l,a≤x∧x≤b)→l.length≤(b+1-a).toNat
 | [],_,_,_,_=>Nat.zero_le _
 |x::l,a,b,h,hx=>by
  obtain⟨h1,h2⟩:=List.pairwise_cons.1 h;have h3:=AG l (x+1) b h2 (fun y hy=>⟨h1 y hy,(hx y (by simp[hy])).2⟩);have h4:=hx x (by simp);simp only[List.length_cons];omega
theorem eb.many{N:Nat}(h:eb Y N):Y.fs.ns.length≤N:=by
 have h1:=AG (Y.fs.ns.map (·.no)) 1 Y.fs.last h.fg.ok.nums.hH (fun x hx=>by
  obtain⟨a,ha,rfl⟩:=List.mem_map.1 hx;exact h.fg.ok.nums.low a ha)
 have h2:=h.fg.ok.lN;simp only[List.length_map] at h1;omega
end
end
section
open Go.RowKit
section
variable{w w':World}{pf:Nat}{R:Rf}{S:Fs}
end
end
section
open Go.RowKit
section
variable{w w' w'':World}{pf pw:Nat}{R R':Rp}{pv:Value}{Y Z:Sy}
end
end
section
open Go.RowKit
section
variable{w w':World}{B pf:Nat}{R:Rf}{Y Z:Sy}
end
end
section
open Go.RowKit Go.Shelf
theorem OG.low{w:World}{base B:Nat}{v:Value}{gs:List Gr}(h:OG w base v gs)(hB:B≤base)(hw:B≤w.heap.size):∃b,B≤b∧b≤w.heap.size∧OG w b v gs:=by
 obtain⟨a,c,rfl,-,-,h1⟩:=h.form;rcases h1 with⟨rfl,h2,rfl⟩|⟨g,rfl,h2,h3⟩
 ·have:gs=[]:=List.eq_nil_of_length_eq_zero h2;subst this;exact⟨B,aa _,hw,OG.nil _ _⟩
 ·exact⟨base,hB,by omega,h⟩
section
variable{w w':World}{B pf:Nat}{R:Rf}{Y:Sy}
theorem C0(h:i' w B pf R Y){N:Nat}(hk:eb Y N)(hN:N≤99999)(u:Us)(ht:u.data.size≤100000)(g:Gr)(hg:g.At w)(Ce:∀x∈g.notes,x.Ok)(On:(aI [(g.notes,0)]).length≤100000) :
  Calls Tryz.prog 9 #[.pointer (some ⟨pf,0,none⟩),.agg #[.int .i64 u.u,.int .i64 u.g,.string u.data],.slice g.a g.notes.length g.c] w fun e w'=>e=.returned (.int .i64 (Y.iZ u g.notes).2)∧dE w w' B pf R (Y.iZ u g.notes).1:=by
 obtain⟨hX,ax⟩:=Uo w #[.int .i64 u.u,.int .i64 u.g,.string u.data] 27;have vd:=Um (fun w1 (hb:Up w w1)=>kp (h.ak hb).r hk.fg.ok h.dd u ht);have Iq:=Um (fun w1 (hb:Up w w1) (a:Option Addr) (c:Nat) (gs:List Gr) (hG:j0 w1 a c gs) (hO:rv gs) (hT:(aI (gs.map Gr.p)).length≤200000000)=>qB (h.ak hb) hk hN u ht hG hO hT);have HY:=Um h;have lD:=Um (js hk.fg.ok Y.dead u).2;have HR:=Um (show Y.iZ u g.notes=if(Y.fs.aV Y.dead u).2.2≠0 then(Y,(Y.fs.aV Y.dead u).2.2) else if(Y.fs.aV Y.dead u).1.getLast?.any (fun g=>g.2 != 101)=true then(Y,16) else Y.du u ((Y.fs.aV Y.dead u).1++[(g.notes,0)]) from rfl);have HG:=Um (ag hg (ag Ce On));generalize Y.fs.aV Y.dead u=ld at vd HR lD;obtain⟨lg,ln,le⟩:=ld;dsimp only at HR lD;clear h hk hg Ce On;go_enter Tryz.func9,Tryz.ntmps9;go_upto_region 1 with fail;generalize w.alloc _=W0 at hX ax⊢;have aJ:=Um ax;have HX:=Um hX;obtain⟨xc,xf,xz⟩:=hX.facts;clear hX ax;go_wp2_with fail;refine(vd.o _ aJ.o).mono ?_;rintro e w1 ⟨⟨base,a1,c1,g1,hbs,mC,rfl,fK,lj⟩,ar⟩;dsimp only at mC⊢;subst mC;have cM:=Um (ao aJ.o ar);have qN:=HX.o.ak ar;have xI:=Um qN;obtain⟨bs,Kd,Kc,fK⟩:=fK.low hbs ar.size;have D6:=Um (ag fK lj);have sB:=Um (ag Kd Kc);clear hbs Kd Kc;clear ar xc xf xz;obtain⟨xc,xf,xz⟩:=qN.facts;clear qN;by_cases hle:le=0
 ·subst hle;have ik:=Um (HR.o.trans (if_neg (by decide)));have gO:=kn g1;have jj:=lD.o;have lh:g1.length≤c1:=fK.n8.sl.2.1;obtain⟨a0,c0,e0,-,GJ,uq⟩:=fK.form;injection e0 with e0 _ e1;subst e0 e1;have nR:a1=none∨∃b,a1=some ⟨b,0,none⟩:=by
   rcases uq with⟨h,-⟩|⟨b,h,-⟩
   ·exact .inl h
   ·exact .inr ⟨b,h⟩
  by_cases hend:(g1.map Gr.p).getLast?.any (fun g=>g.2 != 101)=true
  ·have HE:=Um (ik.o.trans (if_pos hend));rcases Nat.eq_zero_or_pos g1.length with h0|hpos
   ·rw[List.eq_nil_of_length_eq_zero h0] at hend;exact absurd hend (by decide)
   ·rw[fk hpos] at hend;have hfin:(g1[g1.length-1]'(by omega)).fin≠101:=by simpa [Gr.p] using hend
    have hfi:¬((g1[g1.length-1]'(by omega)).fin.toNat:Int)=101:=fun e=>hfin (UInt8.toNat_inj.1 (by show _=101;omega));have hfb:(((g1[g1.length-1]'(by omega)).fin.toNat:Int) != 101)=true:=by simpa using hfi
    rcases uq with⟨-,h0,-⟩|⟨b,rfl,hbb,hblt⟩
    ·omega
    obtain⟨cA,cB,cz⟩:=fK.n8.cells (g1.length-1) (by omega);rw[Nat.zero_add] at cA cB;generalize (g1[g1.length-1]'(by omega)).fin=fin at cB hfi hfb;have GF:(0:Int)<(g1.length:Int):=by omega
    have M8:(1:Int)≤(g1.length:Int):=by omega
    have Cb:(0:Int)≤(g1.length:Int)-1:=by omega
    have J2:(g1.length:Int)-1<(g1.length:Int):=by omega
    have J1:((g1.length:Int)-1).toNat=g1.length-1:=by omega
    clear fK lj hend hfin nR;go_wp2_with fail;go_ret;rw[HE.o];exact⟨rfl,dE.of HY.o cM.o⟩
  ·have HE:=Um (ik.o.trans (if_neg hend));have hGd:=HG.o.1.below cM.o (aa _);rcases Nat.eq_zero_or_pos g1.length with h0|hpos
   all_goals first
    |(
     have GF:¬(0:Int)<(g1.length:Int):=by omega
     clear fK lj hend uq nR h0;go_upto_region 6 with fail)
    |(
     rw[fk hpos] at hend;have hfin:(g1[g1.length-1]'(by omega)).fin=101:=by simpa [Gr.p] using hend
     have hfi:((g1[g1.length-1]'(by omega)).fin.toNat:Int)=101:=by rw[hfin];rfl
     have hfb:(((g1[g1.length-1]'(by omega)).fin.toNat:Int) != 101)=false:=by simpa using hfi
     obtain⟨b,rfl,hbb,hblt⟩:=uq.resolve_left (fun h=>by have:=h.2.1;omega);obtain⟨cA,cB,cz⟩:=fK.n8.cells (g1.length-1) (by omega);rw[Nat.zero_add] at cA cB;generalize (g1[g1.length-1]'(by omega)).fin=fin at cB hfi hfb;have GF:(0:Int)<(g1.length:Int):=by omega
     have M8:(1:Int)≤(g1.length:Int):=by omega
     have Cb:(0:Int)≤(g1.length:Int)-1:=by omega
     have J2:(g1.length:Int)-1<(g1.length:Int):=by omega
     have J1:((g1.length:Int)-1).toNat=g1.length-1:=by omega
     clear fK lj hend hfin nR;go_upto_region 6 with fail;clear cA cB cz hfi hfb)
   all_goals
    refine wp_region_held_drew (S:=fun w'=>au w' w.heap.size #[.int .i64 u.u,.int .i64 u.g,.string u.data] 27) (by kernel_rfl) (xI.o.ak (Below.refl _ w1).drew) (fun cE=>?_);refine bH 5 [(0,33),(1,34),(2,35),(3,36),(4,37)] (by kernel_rfl) (by kernel_rfl) rfl (fun _ _ _ _ _ h=>h) cE ?_
    iterate 5 (apply bo rfl rfl;(· (intro w9 dG;obtain⟨xc,-,-⟩:=dG.facts;clear dG;go_simp;(try with_reducible rfl)));simp only[ah,ai,aj])
    refine bG ?_;have hD:=(Uq w1).drew;have PA:=ao cM.o hD;have hwB:w.heap.size≤bs:=ae aJ.o.size sB.o.1;obtain⟨a2,c2,W2,hrun,km,aD⟩:=(D6.o.1.ak hD).Tv (by omega) (ae sB.o.2 hD.size) g (fun W hb=>HG.o.1.below (PA.trans (hb.mono hwB)) (aa _));have GK:=(Below.refl w1.drew.heap.size w1.drew).alloc (aa _) (.cells #[.slice g.a g.notes.length g.c,.int .u8 0] 45);refine pq 5 38 (v:=.slice (some ⟨w1.drew.heap.size,0,none⟩) 1 1) (W:=w1.drew.alloc (.cells #[.slice g.a g.notes.length g.c,.int .u8 0] 45)) (by kernel_rfl) rfl rfl rfl ?z (cE.ak GK) ?_
    case z=>(go_simp;(try rfl))
    have jO:=cE.gI aD (by have:=HX.o.lt;have:=sB.o.1;omega);simp only[ah,ai,aj];refine sE 6 39 (by kernel_rfl) rfl rfl rfl rfl rfl rfl hrun jO ?_;simp only[ah,ai,aj];have bJ:=PA.trans (aD.mono hwB);have iW:rv (g1++[g.fresh]):=fun y hy=>by
     rcases List.mem_append.1 hy with hy|hy
     ·exact D6.o.2 y hy
     ·rw[List.mem_singleton.1 hy];exact HG.o.2.1
    have lR:(g1++[g.fresh]).map Gr.p=g1.map Gr.p++[(g.notes,0)]:=by rw[List.map_append];rfl
    have pQ:(aI ((g1++[g.fresh]).map Gr.p)).length≤200000000:=by
     rw[lR,jz,List.length_append];have:=HG.o.2.2;omega
    refine dw 7 40 (R:=fun v w'=>v=.int .i64 (Y.du u (g1.map Gr.p++[(g.notes,0)])).2∧dE W2 w' B pf R (Y.du u (g1.map Gr.p++[(g.notes,0)])).1) (by kernel_rfl) rfl rfl rfl ?xa ((Iq.o _ bJ a2 c2 _ km iW pQ).mono (fun e w' ⟨he,hw⟩=>⟨_,he,by rw[lR],by rw[lR] at hw;exact hw⟩)) (fun v w' ⟨_,R',_,hs⟩=>jO.rf (HY.o.ak bJ).r hs (by decide)) ?_
    case xa=>(go_simp;(try rfl))
    rintro _ w3 ⟨rfl,hgo⟩;simp only[ah,ai,aj];have mG:au w3 w.heap.size #[.int .i64 u.u,.int .i64 u.g,.string u.data] 27:=by
     obtain⟨R',-,hs⟩:=hgo;exact jO.rf (HY.o.ak bJ).r hs (by decide)
    refine bH 1 [(8,6)] (by kernel_rfl) (by kernel_rfl) rfl (fun _ _ _ _ _ h=>h) mG ?_
    iterate 1 (apply bo rfl rfl;(· (intro w9 dG;clear dG;go_simp;(try with_reducible rfl)));simp only[ah,ai,aj])
    refine bG ?_;refine wpAnyH_done (by kernel_rfl) ?_ _;have si:=Um (hgo.after bJ);clear cE mG hgo jO aD km hrun;go_wp2_with fail;go_ret;rw[HE.o];exact⟨rfl,si.o⟩
 ·have hlb:(le != 0)=true:=by simpa using hle
  have HE:=Um (HR.o.trans (if_pos hle));clear hle fK lj;go_wp2_with fail;go_ret;rw[HE.o];exact⟨rfl,dE.of HY.o cM.o⟩
end
end
section
open Go.RowKit Go.Shelf
theorem tg{a:Option Addr}{n c:Nat}(ha:a=none∨∃b,a=some ⟨b,0,none⟩)(h0:0<n)(hc:n≤c)(w:World):(Instr.sliceAt 38 (.slice a n c) none (some (.int .i64 ((n:Int)-1))) none).run Tryz.prog w=.ok (.slice a (n-1) c) w:=by
 have h1:(0:Int)≤(n:Int)-1:=by omega
 have h2:(n:Int)-1≤(c:Int):=by omega
 have h3:((n:Int)-1).toNat=n-1:=by omega
 have h4:¬c=0:=by omega
 rcases ha with rfl|⟨b,rfl⟩<;>simp[go_sem,h1,h2,h3,h4,Tryz.underlying38]<;>(intro h9;exact absurd h9 (by omega))
section
variable{w w':World}{pf pw:Nat}{R:Rp}{pv:Value}{Y:Sy}
theorem G2(h:bK w pf pw R pv Y){N:Nat}(hk:eb Y N)(hN:N≤99999)(u:Us)(ht:u.data.size≤100000)(hm:kl w) :
  Calls Tryz.prog 12 #[.pointer (some ⟨pf,0,none⟩),.agg #[.int .i64 u.u,.int .i64 u.g,.string u.data]] w fun e w'=>e=.returned (.int .i64 (Y.jA u).2)∧gN w w' pf pw R pv (Y.jA u).1:=by
 obtain⟨hX,ax⟩:=Uo w #[.int .i64 u.u,.int .i64 u.g,.string u.data] 27;have vd:=Um (fun w1 (hb:Up w w1)=>ku (h.ak hb) hk.fg (by omega) u ht (hm.ak hb));have Iq:=Um (fun w1 (hb:Up w w1) (a:Option Addr) (c:Nat) (gs:List Gr) (hG:j0 w1 a c gs) (hO:rv gs) (hT:(aI (gs.map Gr.p)).length≤200000000)=>nM (h.ak hb) hk hN u ht (hm.ak hb) hG hO hT);have HY:=Um h;have lD:=Um (js hk.fg.ok Y.dead u).2;have HR:=Um (show Y.jA u=if(Y.fs.aV Y.dead u).2.2≠0 then(Y,(Y.fs.aV Y.dead u).2.2) else match(Y.fs.aV Y.dead u).1.getLast? with|none=>(Y,5)|some _=>Y.du u (Y.fs.aV Y.dead u).1.dropLast from rfl);generalize Y.fs.aV Y.dead u=ld at vd HR lD;obtain⟨lg,ln,le⟩:=ld;dsimp only at HR lD;clear h hk hm;go_enter Tryz.func12,Tryz.ntmps12;go_upto_region 1 with fail;generalize w.alloc _=W0 at hX ax⊢;have aJ:=Um ax;have HX:=Um hX;obtain⟨xc,xf,xz⟩:=hX.facts;clear hX ax;go_wp2_with fail;refine(vd.o _ aJ.o).mono ?_;rintro e w1 ⟨⟨base,a1,c1,g1,hbs,mC,rfl,fK,lj⟩,ar⟩;dsimp only at mC⊢;subst mC;have cM:=Um (ao aJ.o ar);have qN:=HX.o.ak ar;have xI:=Um qN;have D6:=Um (ag fK lj);clear ar xc xf xz;obtain⟨xc,xf,xz⟩:=qN.facts;clear qN;by_cases hle:le=0
 ·subst hle;have ik:=Um (HR.o.trans (if_neg (by decide)));have gO:=kn g1;have jj:=lD.o;have lh:g1.length≤c1:=fK.n8.sl.2.1;obtain⟨a0,c0,e0,-,GJ,uq⟩:=fK.form;injection e0 with e0 _ e1;subst e0 e1;have nR:a1=none∨∃b,a1=some ⟨b,0,none⟩:=by
   rcases uq with⟨h,-⟩|⟨b,h,-⟩
   ·exact .inl h
   ·exact .inr ⟨b,h⟩
  rcases Nat.eq_zero_or_pos g1.length with h0|hpos
  ·have HE:=Um (show Y.jA u=(Y,5) by rw[ik.o,List.eq_nil_of_length_eq_zero h0];rfl);have GF:((g1.length:Int)==0)=true:=by rw[h0];rfl
   clear fK lj nR uq h0;go_wp2_with fail;go_ret;rw[HE.o];exact⟨rfl,gN.of HY.o cM.o⟩
  ·have lR:(g1.take (g1.length-1)).map Gr.p=(g1.map Gr.p).dropLast:=by rw[List.dropLast_eq_take,List.map_take,List.length_map]
   have HE:=Um (show Y.jA u=Y.du u ((g1.take (g1.length-1)).map Gr.p) by rw[ik.o,fk hpos,lR]);have EZ:=Um (fun w=>tg (w:=w) nR hpos lh);have pQ:(aI ((g1.take (g1.length-1)).map Gr.p)).length≤200000000:=by
    rw[lR];have:=xt (g1.map Gr.p);omega
   have o4:=Um (fun w2 hb=>Iq.o w2 hb a1 c1 (g1.take (g1.length-1)));rw[List.length_take,Nat.min_eq_left (Nat.sub_le _ _)] at o4;have GF:((g1.length:Int)==0)=false:=by simpa using (by omega:¬g1.length=0)
   have Ph:¬(g1.length:Int)=0:=by omega
   have M8:(1:Int)≤(g1.length:Int):=by omega
   have Cb:(0:Int)≤(g1.length:Int)-1:=by omega
   have J2:(g1.length:Int)-1<(g1.length:Int):=by omega
   have J1:((g1.length:Int)-1).toNat=g1.length-1:=by omega
   have pO:IntKind.i64.wrap ((g1.length:Int)-1)=(g1.length:Int)-1:=by rw[IntKind.wrap_i64];omega
   generalize Y.du u ((g1.take (g1.length-1)).map Gr.p)=Q at HE o4;clear fK lj nR uq lR;go_upto_region 6 with fail;refine wp_region_held_drew (S:=fun w'=>au w' w.heap.size #[.int .i64 u.u,.int .i64 u.g,.string u.data] 27) (by kernel_rfl) (xI.o.ak (Below.refl _ w1).drew) (fun cE=>?_);refine bH 7 [(0,23),(1,24),(2,25),(3,26),(4,27),(5,28),(6,29)] (by kernel_rfl) (by kernel_rfl) rfl (fun _ _ _ _ _ h=>h) cE ?_
   iterate 7 (apply bo rfl rfl;(· (intro w9 dG;obtain⟨xc,-,-⟩:=dG.facts;have hsl:=EZ.o w9;clear dG;go_simp;(try with_reducible rfl)));simp only[ah,ai,aj])
   refine bG ?_;have hD:=(Uq w1).drew;have bJ:=ao cM.o hD;have km:=(D6.o.1.ak hD).n8.take (g1.length-1) (Nat.sub_le _ _);have iW:rv (g1.take (g1.length-1)):=fun y hy=>D6.o.2 y (List.mem_of_mem_take hy);refine dw 7 30 (R:=fun v w'=>v=.int .i64 Q.2∧gN w1.drew w' pf pw R pv Q.1) (by kernel_rfl) rfl rfl rfl ?xa ((o4.o _ bJ km iW pQ).mono (fun e w' ⟨he,hw⟩=>⟨_,he,rfl,hw⟩)) (fun v w' ⟨_,R',_,hs⟩=>cE.sy (HY.o.ak bJ) hs (by decide) (by decide)) ?_
   case xa=>(go_simp;(try rfl))
   rintro _ w3 ⟨rfl,hgo⟩;simp only[ah,ai,aj];have mG:au w3 w.heap.size #[.int .i64 u.u,.int .i64 u.g,.string u.data] 27:=by
    obtain⟨R',-,hs⟩:=hgo;exact cE.sy (HY.o.ak bJ) hs (by decide) (by decide)
   refine bH 1 [(8,4)] (by kernel_rfl) (by kernel_rfl) rfl (fun _ _ _ _ _ h=>h) mG ?_
   iterate 1 (apply bo rfl rfl;(· (intro w9 dG;clear dG;go_simp;(try with_reducible rfl)));simp only[ah,ai,aj])
   refine bG ?_;refine wpAnyH_done (by kernel_rfl) ?_ _;have si:=Um (hgo.after bJ);clear cE mG hgo km;go_wp2_with fail;go_ret;rw[HE.o];exact⟨rfl,si.o⟩
 ·have hlb:(le != 0)=true:=by simpa using hle
  have HE:=Um (HR.o.trans (if_pos hle));clear hle fK lj;go_wp2_with fail;go_ret;rw[HE.o];exact⟨rfl,gN.of HY.o cM.o⟩
end
end
section
open Go.RowKit Go.Shelf
def Sy.j3(Y:Sy)(u:Us)(g:List Nt×UInt8):Sy×Int:=
 if(Y.fs.aV Y.dead u).2.2≠0 then(Y,(Y.fs.aV Y.dead u).2.2)
 else match(Y.fs.aV Y.dead u).1.getLast? with
  |none=>(Y,5)
  |some _=>Y.du u ((Y.fs.aV Y.dead u).1.dropLast++if g.1=[] then[] else[g])
theorem Fg(Y:Sy)(u:Us):Y.jA u=Y.j3 u ([],0):=by
 unfold Sy.jA Sy.j3
 split
 ·rfl
 ·cases (Y.fs.aV Y.dead u).1.getLast? with
  |none=>rfl
  |some x=>
   show _=Y.du u (_++if([]:List Nt)=[] then[] else _);rw[if_pos rfl,List.append_nil]
section
variable{w w':World}{B pf:Nat}{R:Rf}{Y:Sy}
theorem tD(h:i' w B pf R Y){N:Nat}(hk:eb Y N)(hN:N≤99999)(u:Us)(ht:u.data.size≤100000)(g:Gr)(hg:g.At w)(Ce:∀x∈g.notes,x.Ok)(On:(aI [g.p]).length≤100000000) :
  Calls Tryz.prog 26 #[.pointer (some ⟨pf,0,none⟩),.agg #[.int .i64 u.u,.int .i64 u.g,.string u.data],.agg #[.slice g.a g.notes.length g.c,.int .u8 g.fin.toNat]] w fun e w'=>e=.returned (.int .i64 (Y.j3 u g.p).2)∧dE w w' B pf R (Y.j3 u g.p).1:=by
 have hX:=(au.new w #[.int .i64 u.u,.int .i64 u.g,.string u.data] 27).eE (.cells #[.slice g.a g.notes.length g.c,.int .u8 g.fin.toNat] 45);have hV:au ((w.alloc (.cells #[.int .i64 u.u,.int .i64 u.g,.string u.data] 27)).alloc (.cells #[.slice g.a g.notes.length g.c,.int .u8 g.fin.toNat] 45)) (w.heap.size+1) #[.slice g.a g.notes.length g.c,.int .u8 g.fin.toNat] 45:=by
  have:=au.new (w.alloc (.cells #[.int .i64 u.u,.int .i64 u.g,.string u.data] 27)) #[.slice g.a g.notes.length g.c,.int .u8 g.fin.toNat] 45
  rwa [World.size_alloc] at this
 have ax:=al (al (Uq w) (.cells #[.int .i64 u.u,.int .i64 u.g,.string u.data] 27)) (.cells #[.slice g.a g.notes.length g.c,.int .u8 g.fin.toNat] 45);have vd:=Um (fun w1 (hb:Up w w1)=>kp (h.ak hb).r hk.fg.ok h.dd u ht);have Iq:=Um (fun w1 (hb:Up w w1) (a:Option Addr) (c:Nat) (gs:List Gr) (hG:j0 w1 a c gs) (hO:rv gs) (hT:(aI (gs.map Gr.p)).length≤200000000)=>qB (h.ak hb) hk hN u ht hG hO hT);have HY:=Um h;have lD:=Um (js hk.fg.ok Y.dead u).2;have HR:=Um (show Y.j3 u g.p=if(Y.fs.aV Y.dead u).2.2≠0 then(Y,(Y.fs.aV Y.dead u).2.2) else match(Y.fs.aV Y.dead u).1.getLast? with|none=>(Y,5)|some _=>Y.du u ((Y.fs.aV Y.dead u).1.dropLast++if g.notes=[] then[] else[g.p]) from rfl);have HG:=Um (ag hg (ag Ce On));generalize Y.fs.aV Y.dead u=ld at vd HR lD;obtain⟨lg,ln,le⟩:=ld;dsimp only at HR lD;clear h hk hg Ce On;go_enter Tryz.func26,Tryz.ntmps26;go_upto_region 1 with fail;generalize (w.alloc (.cells #[.int .i64 u.u,.int .i64 u.g,.string u.data] 27)).alloc (.cells #[.slice g.a g.notes.length g.c,.int .u8 g.fin.toNat] 45)=W0 at hX hV ax⊢;have aJ:=Um ax;have HX:=Um hX;have HV:=Um hV;obtain⟨xc,xf,xz⟩:=hX.facts;clear hX ax hV;go_wp2_with fail;refine(vd.o _ aJ.o).mono ?_;rintro e w1 ⟨⟨base,a1,c1,g1,hbs,mC,rfl,fK,lj⟩,ar⟩;dsimp only at mC⊢;subst mC;have cM:=Um (ao aJ.o ar);have xI:=Um (HX.o.ak ar);have HV1:=Um (HV.o.ak ar);have D6:=Um (ag fK lj);clear ar xc xf xz hbs;by_cases hle:le=0
 ·subst hle;have ik:=Um (HR.o.trans (if_neg (by decide)));have gO:=kn g1;have jj:=lD.o;have lh:g1.length≤c1:=fK.n8.sl.2.1;obtain⟨a0,c0,e0,-,GJ,uq⟩:=fK.form;injection e0 with e0 _ e1;subst e0 e1;have nR:a1=none∨∃b,a1=some ⟨b,0,none⟩:=by
   rcases uq with⟨h,-⟩|⟨b,h,-⟩
   ·exact .inl h
   ·exact .inr ⟨b,h⟩
  rcases Nat.eq_zero_or_pos g1.length with h0|hpos
  ·have HE:=Um (show Y.j3 u g.p=(Y,5) by rw[ik.o,List.eq_nil_of_length_eq_zero h0];rfl);have GF:((g1.length:Int)==0)=true:=by rw[h0];rfl
   clear fK lj nR uq h0;go_wp2_with fail;go_ret;rw[HE.o];exact⟨rfl,dE.of HY.o cM.o⟩
  ·have lR:(g1.take (g1.length-1)).map Gr.p=(g1.map Gr.p).dropLast:=by rw[List.dropLast_eq_take,List.map_take,List.length_map]
   have EH:Y.j3 u g.p=Y.du u ((g1.take (g1.length-1)).map Gr.p++if g.notes=[] then[] else[g.p]):=by rw[ik.o,fk hpos,lR]
   have rU:(aI ((g1.take (g1.length-1)).map Gr.p)).length≤1048576:=by
    rw[lR];have:=xt (g1.map Gr.p);omega
   have hlen:(g1.take (g1.length-1)).length=g1.length-1:=by rw[List.length_take,Nat.min_eq_left (Nat.sub_le _ _)]
   obtain⟨a2,c2,W2,hrun,hown,aD⟩:=fK.Tt (g1.length-1) (Nat.sub_le _ _) (by omega);have iW:rv (g1.take (g1.length-1)):=fun y hy=>lj y (List.mem_of_mem_take hy);have hat:∀y∈g1.take (g1.length-1),y.At w1:=fun y hy=>fK.Q9 y (List.mem_of_mem_take hy);have rq:=Um hrun;have HQ:=Um (ag hown (ag aD (ag iW (ag hat (ag hlen (ag rU EH))))));have hsl:=fun w=>tg (w:=w) nR hpos lh;have GF:((g1.length:Int)==0)=false:=by simpa using (by omega:¬g1.length=0)
   have Ph:¬(g1.length:Int)=0:=by omega
   have M8:(1:Int)≤(g1.length:Int):=by omega
   have Cb:(0:Int)≤(g1.length:Int)-1:=by omega
   have J2:(g1.length:Int)-1<(g1.length:Int):=by omega
   have J1:((g1.length:Int)-1).toNat=g1.length-1:=by omega
   have pO:IntKind.i64.wrap ((g1.length:Int)-1)=(g1.length:Int)-1:=by rw[IntKind.wrap_i64];omega
   clear fK lj nR uq lR EH rU hlen hrun hown aD iW hat;go_upto_region 8 with(at_builtin;refine aG rfl rfl rfl rfl rq.o ?_);have aD:=HQ.o.2.1;have jO:=xI.o.ak aD;have PD:=HV1.o.ak aD;have cV:=Um (ao cM.o aD);obtain⟨xc,xf,xz⟩:=jO.facts;obtain⟨vc,vf,vz⟩:=PD.facts;have lZ:=Um jO;clear aD jO PD;rcases Nat.eq_zero_or_pos g.notes.length with vm|hgp
   ·have hgn:g.notes=[]:=List.eq_nil_of_length_eq_zero vm;have km:j0 W2 a2 c2 (g1.take (g1.length-1)):=⟨by rw[HQ.o.2.2.2.2.1];exact bW (R:=P4) (by omega) Gr.bt (fun _=>rfl) HQ.o.1,fun y hy=>(HQ.o.2.2.2.1 y hy).below HQ.o.2.1 (aa _)⟩;have hS:=Iq.o _ cV.o a2 c2 _ km HQ.o.2.2.1 (by have:=HQ.o.2.2.2.2.2.1;omega);rw[HQ.o.2.2.2.2.1] at hS;have EH:=HQ.o.2.2.2.2.2.2;rw[hgn,if_pos rfl,List.append_nil] at EH;rw[←EH] at hS;have HS:=Um hS;obtain⟨Q,qP⟩:∃Q,Y.j3 u g.p=Q:=⟨_,rfl⟩;rw[qP] at HS;have HJ:=Um qP;clear qP;have hx5:¬(0:Int)<(g.notes.length:Int):=by omega
    clear hS EH km hgn vm;go_wp2_with fail;refine HS.o.mono ?_;rintro e w3 ⟨rfl,hgo⟩;have si:=Um (hgo.after cV.o);clear hgo;go_wp2_with fail;go_ret;rw[HJ.o];exact⟨rfl,si.o⟩
   ·have hgn:g.notes≠[]:=fun e=>by rw[e] at hgp;exact absurd hgp (by decide)
    obtain⟨a3,c3,W3,J4,Td,bJ⟩:=Jr (w0:=w1) HQ.o.1 (by omega) (aa _) HQ.o.2.1 HQ.o.2.1.size HQ.o.2.2.2.1 g (HG.o.1.below cM.o (aa _));have EH:=HQ.o.2.2.2.2.2.2;rw[if_neg hgn] at EH;have vk:(g1.take (g1.length-1)++[g]).map Gr.p=(g1.take (g1.length-1)).map Gr.p++[g.p]:=by rw[List.map_append];rfl
    have dI:Up w W3:=cV.o.trans (bJ.mono cM.o.size);have hS:=Iq.o _ dI a3 c3 _ Td (fun y hy=>by
     rcases List.mem_append.1 hy with hy|hy
     ·exact HQ.o.2.2.1 y hy
     ·rw[List.mem_singleton.1 hy];exact HG.o.2.1) (by
     rw[vk,jz,List.length_append];have:=HQ.o.2.2.2.2.2.1;have:=HG.o.2.2;omega)
    rw[vk,←EH] at hS;generalize (g1.take (g1.length-1)++[g]).length=m3 at hS J4;have HS:=Um hS;have l1:=Um J4;have oh:=Um dI;have qp:=Um (lZ.o.gI bJ (by have:=HX.o.lt;have:=cM.o.size;have:=xI.o.lt;omega));obtain⟨Q,qP⟩:∃Q,Y.j3 u g.p=Q:=⟨_,rfl⟩;rw[qP] at HS;have HJ:=Um qP;clear qP;have hx5:(0:Int)<(g.notes.length:Int):=by omega
    clear hS EH Td hgn hgp J4 bJ dI vk;go_upto_region 10 with(at_builtin;refine aG rfl rfl rfl rfl l1.o ?_);clear xc xf xz vc vf vz;obtain⟨xc,xf,xz⟩:=qp.o.facts;go_wp2_with fail;refine HS.o.mono ?_;rintro e w3 ⟨rfl,hgo⟩;have si:=Um (hgo.after oh.o);clear hgo;go_wp2_with fail;go_ret;rw[HJ.o];exact⟨rfl,si.o⟩
 ·have hlb:(le != 0)=true:=by simpa using hle
  have HE:=Um (HR.o.trans (if_pos hle));clear hle fK lj;go_wp2_with fail;go_ret;rw[HE.o];exact⟨rfl,dE.of HY.o cM.o⟩
theorem FD(h:i' w B pf R Y){N:Nat}(hk:eb Y N)(hN:N≤99999)(u:Us)(ht:u.data.size≤100000) :
  Calls Tryz.prog 13 #[.pointer (some ⟨pf,0,none⟩),.agg #[.int .i64 u.u,.int .i64 u.g,.string u.data]] w fun e w'=>e=.returned (.int .i64 (Y.jA u).2)∧dE w w' B pf R (Y.jA u).1:=by
 obtain⟨hX,ax⟩:=Uo w #[.int .i64 u.u,.int .i64 u.g,.string u.data] 27;have HS:=Um (fun w1 (hb:Up w w1)=>tD (h.ak hb) hk hN u ht ⟨none,0,[],0⟩ ⟨rfl,aa _,by decide,.inl rfl⟩ (fun x hx=>by simp at hx) (by decide));rw[Fg];rw[show(⟨none,0,[],0⟩:Gr).p=([],0) from rfl] at HS;generalize Y.j3 u ([],0)=Q at HS⊢;clear h hk;go_enter Tryz.func13,Tryz.ntmps13;go_upto_region 1 with fail;generalize w.alloc _=W0 at hX ax⊢;have aJ:=Um ax;obtain⟨xc,xf,xz⟩:=hX.facts;clear hX ax;go_wp2_with fail;refine(HS.o _ aJ.o).mono ?_;rintro e w3 ⟨rfl,hgo⟩;have si:=Um (hgo.after aJ.o);clear hgo;go_wp2_with fail;go_ret;exact⟨rfl,si.o⟩
end
end
end Go.Proofs.YtinflmadpnigfaaGreatDoor
