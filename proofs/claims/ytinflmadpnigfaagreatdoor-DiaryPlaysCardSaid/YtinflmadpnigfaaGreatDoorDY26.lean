import Derived.Test.YtinflmadpnigfaaGreatDoorDY25
import Derived.Test.YtinflmadpnigfaaGreatDoorDY5
import Derived.Test.YtinflmadpnigfaaGreatDoorDY9
import Derived.Test.YtinflmadpnigfaaGreatDoorDY24
import Derived.Test.YtinflmadpnigfaaGreatDoorDY23
set_option linter.unusedVariables false
set_option linter.unusedSimpArgs false
set_option maxRecDepth 100000
set_option maxHeartbeats 16000000
namespace Go.Proofs.YtinflmadpnigfaaGreatDoor
section
open Go.RowKit Go.Shelf
theorem mN{ns:List Nt}{no:Int}(h0:no≠0)(hm:0<ns.length):dN ns no=ns.set (ns.length-1) ((ns[ns.length-1]'(by omega)).fU no):=by
 unfold dN;rw[if_neg h0];rcases List.eq_nil_or_concat ns with rfl|⟨l,x,rfl⟩
 ·simp at hm
 ·simp only[List.concat_eq_append,List.getLast?_concat,List.dropLast_concat,List.length_append,List.length_singleton,Nat.add_sub_cancel];rw[List.set_append_right _ _ (aa _)];simp
theorem qW(ns:List Nt):dN ns 0=ns:=by unfold dN;rw[if_pos rfl]
theorem iO(ns:List Nt)(no:Int):(dN ns no).length=ns.length:=by
 by_cases h0:no=0
 ·rw[h0,qW]
 ·rcases Nat.eq_zero_or_pos ns.length with h|h
  ·rw[List.eq_nil_of_length_eq_zero h];unfold dN;rw[if_neg h0];rfl
  ·rw[mN h0 h,List.length_set]
theorem Kz{Y:Sy}{u:Us}{b:UInt8}{no:Int}(h0:(Y.fs.aV Y.dead u).2.2=0){g:List Nt×UInt8}(hg:(Y.fs.aV Y.dead u).1.getLast?=some g)(hn:g.1≠[]):Y.iX u b no=Y.j3 u (dN g.1 no,b):=by
 have h1:¬(Y.fs.aV Y.dead u).2.2≠0:=by simpa using h0
 unfold Sy.iX Sy.j3;rw[if_neg h1,if_neg h1,hg];show Y.du u _=Y.du u (_++if dN g.1 no=[] then[] else _);rw[if_neg (fun e=>hn (List.eq_nil_of_length_eq_zero (by rw[←iO g.1 no,e];rfl)))]
theorem Gw(ns:List Nt):ns.length≤(ns.flatMap dU).length:=by
 induction ns with
 |nil=>exact Nat.zero_le _
 |cons x ns ih=>
  rw[List.flatMap_cons,List.length_append];have:1≤(dU x).length:=by unfold dU;simp
  simp only[List.length_cons];omega
theorem wL(gs:List Gr):∀g∈gs,g.notes.length≤(aI (gs.map Gr.p)).length:=by
 induction gs with
 |nil=>intro g hg;simp at hg
 |cons y gs ih=>
  intro g hg;have h1:aI ((y::gs).map Gr.p)=fq y.p++aI (gs.map Gr.p):=rfl;rw[h1,List.length_append];rcases List.mem_cons.1 hg with rfl|hg
  ·have h2:(fq g.p).length=(g.notes.flatMap dU).length+(iG g.fin).length+2:=by unfold fq Gr.p;simp
   have:=Gw g.notes;omega
  ·have:=ih g hg;omega
section
variable{w w':World}{B pf:Nat}{R:Rf}{Y:Sy}
theorem FW(h:i' w B pf R Y){N:Nat}(hk:eb Y N)(hN:N≤99999)(u:Us)(ht:u.data.size≤100000)(b:UInt8)(no:Int)(Cd:-9223372036854775808≤no)(gO:no≤9223372036854775807) :
  Calls Tryz.prog 11 #[.pointer (some ⟨pf,0,none⟩),.agg #[.int .i64 u.u,.int .i64 u.g,.string u.data],.int .u8 b.toNat,.int .i64 no] w fun e w'=>e=.returned (.int .i64 (Y.iX u b no).2)∧dE w w' B pf R (Y.iX u b no).1:=by
 obtain⟨hX,ax⟩:=Uo w #[.int .i64 u.u,.int .i64 u.g,.string u.data] 27;have vd:=Um (fun w1 (hb:Up w w1)=>kp (h.ak hb).r hk.fg.ok h.dd u ht);have sA:=Um (fun w1 (hb:Up w w1) (g:Gr) (hg:g.At w1) (hO:∀x∈g.notes,x.Ok) (hT:(aI [g.p]).length≤100000000)=>tD (h.ak hb) hk hN u ht g hg hO hT);have HY:=Um h;obtain⟨hfi,hln⟩:=js hk.fg.ok Y.dead u;have HR:=Um (show Y.iX u b no=if(Y.fs.aV Y.dead u).2.2≠0 then(Y,(Y.fs.aV Y.dead u).2.2) else match(Y.fs.aV Y.dead u).1.getLast? with|none=>(Y,5)|some g=>Y.du u ((Y.fs.aV Y.dead u).1.dropLast++[(dN g.1 no,b)]) from rfl);have Ly:=Um (fun h0 g=>Kz (Y:=Y) (u:=u) (b:=b) (no:=no) h0 (g:=g));generalize Y.fs.aV Y.dead u=ld at vd HR hln hfi Ly;obtain⟨lg,ln,le⟩:=ld;dsimp only at HR hln hfi Ly;have lD:=Um hln;have E2:=Um hfi;have fL:=Um (ag Cd gO);clear h hk hln hfi Cd gO;go_enter Tryz.func11,Tryz.ntmps11;go_upto_region 1 with fail;generalize w.alloc _=W0 at hX ax⊢;have aJ:=Um ax;have HX:=Um hX;obtain⟨xc,xf,xz⟩:=hX.facts;clear hX ax;go_wp2_with fail;refine(vd.o _ aJ.o).mono ?_;rintro e w1 ⟨⟨base,a1,c1,g1,hbs,mC,rfl,fK,lj⟩,ar⟩;dsimp only at mC⊢;subst mC;have cM:=Um (ao aJ.o ar);have xI:=Um (HX.o.ak ar);obtain⟨bs,Kd,Kc,fK⟩:=fK.low hbs ar.size;have D6:=Um (ag fK lj);have sB:=Um (ag Kd Kc);clear ar xc xf xz hbs Kd Kc;by_cases hle:le=0
 ·subst hle;have ik:=Um (HR.o.trans (if_neg (by decide)));have gO:=kn g1;have jj:=lD.o;have lh:g1.length≤c1:=fK.n8.sl.2.1;obtain⟨a0,c0,e0,-,GJ,uq⟩:=fK.form;injection e0 with e0 _ e1;subst e0 e1;rcases Nat.eq_zero_or_pos g1.length with h0|hpos
  ·have HE:=Um (show Y.iX u b no=(Y,5) by rw[ik.o,List.eq_nil_of_length_eq_zero h0];rfl);have GF:((g1.length:Int)==0)=true:=by rw[h0];rfl
   clear fK lj uq h0;go_wp2_with fail;go_ret;rw[HE.o];exact⟨rfl,dE.of HY.o cM.o⟩
  ·obtain⟨bl,rfl,hbb,hblt⟩:=uq.resolve_left (fun h=>by have:=h.2.1;omega);obtain⟨cA,cB,cz⟩:=fK.n8.cells (g1.length-1) (by omega);rw[Nat.zero_add] at cA cB;have hK:g1.length-1<g1.length:=by omega
   have hmem:g1[g1.length-1]∈g1:=List.getElem_mem _;have A8:=uj E2.o (List.mem_map_of_mem (f:=Gr.p) hmem);have HE:=Um (Ly.o rfl _ (fk hpos) A8);have hgf:=wL g1 _ hmem;have Ce:=lj _ hmem;have hgc:=(fK.Q9 _ hmem).2.1;have GH:=(fK.Q9 _ hmem).2.2.1;have QR:=BD (g1.map Gr.p) (fk hpos) b fL.o.1 fL.o.2;have aD:=(Uq w1).alloc (aa _) (.cells #[.slice (g1[g1.length-1]).a (g1[g1.length-1]).notes.length (g1[g1.length-1]).c,.int .u8 (g1[g1.length-1]).fin.toNat] 45);have hcp:=(fK.ak aD).copy (g1.length-1) hK (by omega) (ae sB.o.2 aD.size);have jO:=xI.o.ak aD;have PD:=au.new w1 #[.slice (g1[g1.length-1]).a (g1[g1.length-1]).notes.length (g1[g1.length-1]).c,.int .u8 (g1[g1.length-1]).fin.toNat] 45;generalize g1[g1.length-1]=gl at cA cB A8 HE hgf Ce hgc GH QR aD hcp jO PD;have BW:=Um (show(aI [(dN gl.notes no,b)]).length≤100000000 by
    rw[jz,List.length_append] at QR;show(aI [(dN gl.p.1 no,b)]).length≤_;omega)
   have hgn:gl.notes≠[]:=A8;have hgm:0<gl.notes.length:=List.length_pos_iff.2 hgn;have GF:((g1.length:Int)==0)=false:=by simpa using (by omega:¬g1.length=0)
   have Ph:¬(g1.length:Int)=0:=by omega
   have M8:(1:Int)≤(g1.length:Int):=by omega
   have Cb:(0:Int)≤(g1.length:Int)-1:=by omega
   have J2:(g1.length:Int)-1<(g1.length:Int):=by omega
   have J1:((g1.length:Int)-1).toNat=g1.length-1:=by omega
   have hmm:gl.notes.length≤1048576:=by omega
   have Qd:=Um Ce;clear fK lj QR A8 hgf hmem Ce;go_upto_region 7 with fail;generalize w1.alloc _=w2 at aD hcp jO PD⊢;obtain⟨a',c',W,hrun,hnr,lS,hfr⟩:=hcp;have cV:=Um (ao cM.o aD);have ik:=Um hrun;obtain⟨vc,vf,vz⟩:=PD.facts;have iJ:=jO.ak lS;have qp:=Um iJ;have vK:=Um (ao cV.o lS);have OK:=Um hnr;have HFr:=Um hfr;clear jO aD hrun hnr hfr PD cA cB cz;go_upto_region 9 with(at_builtin;refine aG rfl rfl rfl rfl ik.o ?_);clear vc vf vz;obtain⟨xc,xf,xz⟩:=iJ.facts;clear iJ;have hy1:(1:Int)≤(gl.notes.length:Int):=by omega
   have A5:(0:Int)≤(gl.notes.length:Int)-1:=by omega
   have hy3:(gl.notes.length:Int)-1<(gl.notes.length:Int):=by omega
   have hy4:((gl.notes.length:Int)-1).toNat=gl.notes.length-1:=by omega
   by_cases hno:no=0
   ·subst hno;rw[qW] at HE BW;have HS:=Um (sA.o _ vK.o ⟨a',c',gl.notes,b⟩ (bW (R:=Ig) (by omega) Nt.bt (fun _=>rfl) OK.o) Qd.o BW.o);go_wp2_with fail;refine HS.o.mono ?_;rintro e w3 ⟨rfl,hgo⟩;have si:=Um (hgo.after vK.o);clear hgo;go_wp2_with fail;go_ret;rw[HE.o];exact⟨rfl,si.o⟩
   ·have St:(no != 0)=true:=by simpa using hno
    obtain⟨a9,c9,e9,hle9,hc9,h9⟩:=bw OK.o;injection e9 with e9 _ e10;dsimp only at e9 e10;subst e9 e10;obtain⟨nb,rfl,hnb1,Pp⟩:=h9.resolve_left (fun h=>by have:=h.2.1;dsimp only at this;omega);have Dz:=Gr.At.cells (g:=⟨some ⟨nb,0,none⟩,c',gl.notes,gl.fin⟩) (bW (R:=Ig) (by omega) Nt.bt (fun _=>rfl) OK.o) rfl (gl.notes.length-1) (by show gl.notes.length-1<gl.notes.length;omega);dsimp only at Dz;rw[Nat.zero_add] at Dz;generalize hx:gl.notes[gl.notes.length-1]'(by omega)=x at Dz;obtain⟨k0,k1,k2,k3,k4,klt⟩:=Dz;have Dz:rp W nb ((gl.notes.length-1)*5) x:=⟨k0,k1,k2,k3,k4,klt⟩;go_upto_region 12 with fail;have hN5:=au.new W #[.int .u8 x.kind.toNat,.int .i64 x.no,.string x.src,.string x.dst,.string x.tmp] 63;have Ij:=qp.o.eE (.cells #[.int .u8 x.kind.toNat,.int .i64 x.no,.string x.src,.string x.dst,.string x.tmp] 63);have b9:=(Uq W).alloc (aa _) (.cells #[.int .u8 x.kind.toNat,.int .i64 x.no,.string x.src,.string x.dst,.string x.tmp] 63);clear k0 k1 k2 k3 k4 klt xc xf xz;generalize W.alloc _=W5 at hN5 Ij b9⊢;obtain⟨mc,mf,mz⟩:=hN5.facts;go_upto_region 13 with fail;have QU:=hN5.set 1 (.int .i64 no);have hX6:=Ij.mod ((Mod.refl (fun k=>k=W.heap.size) W5).setCell (a:=⟨W.heap.size,1,none⟩) (.inl rfl) (.int .i64 no)) (fun e=>by have:=qp.o.lt;omega);have eV:=b9.setCell (show W.heap.size≤(⟨W.heap.size,1,none⟩:Addr).block from aa _) (.int .i64 no);simp only[ah,ai,aj] at QU;clear mc mf mz hN5 Ij b9;generalize W5.setCell ⟨W.heap.size,1,none⟩ (.int .i64 no)=W6 at QU hX6 eV⊢;obtain⟨mc,mf,mz⟩:=QU.facts;by_cases EC:x.tmp.size=0
    ·have hn:x.tmp.toList=[]:=by rw[aC];exact List.eq_nil_of_length_eq_zero (by rw[Array.length_toList];exact EC)
     have hrt:x.fU no=⟨x.kind,no,x.src,x.dst,x.tmp⟩:=by unfold Nt.fU;rw[if_pos EC]
     have PK:=QU;have QQ:=hX6;have vD:=eV;clear EC;go_upto_region 15 with fail;clear mc mf mz hn;obtain⟨vc,vf,vz⟩:=PK.facts;have Pq:=bY OK.o vD (aa _);have Px:=(cd Pq).1;obtain⟨k0,k1,k2,k3,k4,klt⟩:=Dz.below vD Pp;go_upto_region 16 with fail;have hput:=sF (enc:=Nt.cs) (by omega) Nt.bt Pq (gl.notes.length-1) (by show gl.notes.length-1<gl.notes.length;omega) (x.fU no);have hmp:=kT (g:=nb) (x.fU no).cs W6 ((gl.notes.length-1)*5);rw[hrt] at hput hmp;simp only[putRow,Nt.cs,Nat.add_assoc,Nat.reduceAdd] at hput hmp;generalize (((((W6.setCell ⟨nb,(gl.notes.length-1)*5,none⟩ (.int .u8 x.kind.toNat)).setCell ⟨nb,(gl.notes.length-1)*5+1,none⟩ (.int .i64 no)).setCell ⟨nb,(gl.notes.length-1)*5+2,none⟩ (.string x.src)).setCell ⟨nb,(gl.notes.length-1)*5+3,none⟩ (.string x.dst)).setCell ⟨nb,(gl.notes.length-1)*5+4,none⟩ (.string x.tmp))=Z at hput hmp⊢;have SP:=QQ.mod hmp (fun e=>by have:=HX.o.lt;have:=sB.o.1;omega);have wZ:Up w Z:=(vK.o.trans (vD.mono vK.o.size)).trans (hmp.below (fun k hk=>by subst hk;have:=aJ.o.size;have:=sB.o.1;omega) (ae vK.o.size vD.size));obtain⟨xc,xf,xz⟩:=SP.facts;have hset:dN gl.notes no=gl.notes.set (gl.notes.length-1) (x.fU no):=by rw[mN hno hgm,hx]
     rw[←hrt,←hset] at hput;have hS:=sA.o Z wZ ⟨some ⟨nb,0,none⟩,c',dN gl.notes no,b⟩ (by
      show bj Z 5 Ig _ (dN gl.notes no).length c' (dN gl.notes no);rw[iO];exact bW (R:=Ig) (by omega) Nt.bt (fun _=>rfl) hput) (pZ Qd.o fL.o.1 fL.o.2) BW.o
     rw[show(⟨some ⟨nb,0,none⟩,c',dN gl.notes no,b⟩:Gr).notes.length=gl.notes.length from iO _ _,show(⟨some ⟨nb,0,none⟩,c',dN gl.notes no,b⟩:Gr).p=(dN gl.notes no,b) from rfl,show(⟨some ⟨nb,0,none⟩,c',dN gl.notes no,b⟩:Gr).a=some ⟨nb,0,none⟩ from rfl,show(⟨some ⟨nb,0,none⟩,c',dN gl.notes no,b⟩:Gr).c=c' from rfl,show(⟨some ⟨nb,0,none⟩,c',dN gl.notes no,b⟩:Gr).fin=b from rfl,←show Y.iX u b no=Y.j3 u (dN gl.notes no,b) from HE.o] at hS;obtain⟨Q,qP⟩:∃Q,Y.iX u b no=Q:=⟨_,rfl⟩;rw[qP] at hS;have HS:=Um hS;have HJ:=Um qP;have jX:=Um wZ;clear qP hS hset hput hmp SP wZ vc vf vz Pq Px k0 k1 k2 k3 k4 klt QQ PK vD Dz hrt hx;go_wp2_with fail;refine HS.o.mono ?_;rintro e w9 ⟨rfl,hgo⟩;have si:=Um (hgo.after jX.o);clear hgo;go_wp2_with fail;go_ret;rw[HJ.o];exact⟨rfl,si.o⟩
    ·have hn:¬x.tmp.toList=[]:=by
      rw[aC];intro e;have:x.tmp.data.toList.length=x.tmp.size:=Array.length_toList;rw[e] at this;simp at this;omega
     have jj:x.tmp.toList.isEmpty=false:=by simpa using hn
     have hrt:x.fU no=⟨x.kind,no,x.src,x.dst,x.dst⟩:=by unfold Nt.fU;rw[if_neg EC]
     clear EC;go_upto_region 15 with fail;have PK:=QU.set 4 (.string x.dst);have QQ:=hX6.mod ((Mod.refl (fun k=>k=W.heap.size) W6).setCell (a:=⟨W.heap.size,4,none⟩) (.inl rfl) (.string x.dst)) (fun e=>by have:=qp.o.lt;omega);have vD:=eV.setCell (show W.heap.size≤(⟨W.heap.size,4,none⟩:Addr).block from aa _) (.string x.dst);simp only[ah,ai,aj] at PK;clear mc mf mz QU hX6 eV hn jj;generalize W6.setCell ⟨W.heap.size,4,none⟩ (.string x.dst)=W7 at PK QQ vD⊢;obtain⟨vc,vf,vz⟩:=PK.facts;have Pq:=bY OK.o vD (aa _);have Px:=(cd Pq).1;obtain⟨k0,k1,k2,k3,k4,klt⟩:=Dz.below vD Pp;go_upto_region 16 with fail;have hput:=sF (enc:=Nt.cs) (by omega) Nt.bt Pq (gl.notes.length-1) (by show gl.notes.length-1<gl.notes.length;omega) (x.fU no);have hmp:=kT (g:=nb) (x.fU no).cs W7 ((gl.notes.length-1)*5);rw[hrt] at hput hmp;simp only[putRow,Nt.cs,Nat.add_assoc,Nat.reduceAdd] at hput hmp;generalize (((((W7.setCell ⟨nb,(gl.notes.length-1)*5,none⟩ (.int .u8 x.kind.toNat)).setCell ⟨nb,(gl.notes.length-1)*5+1,none⟩ (.int .i64 no)).setCell ⟨nb,(gl.notes.length-1)*5+2,none⟩ (.string x.src)).setCell ⟨nb,(gl.notes.length-1)*5+3,none⟩ (.string x.dst)).setCell ⟨nb,(gl.notes.length-1)*5+4,none⟩ (.string x.dst))=Z at hput hmp⊢;have SP:=QQ.mod hmp (fun e=>by have:=HX.o.lt;have:=sB.o.1;omega);have wZ:Up w Z:=(vK.o.trans (vD.mono vK.o.size)).trans (hmp.below (fun k hk=>by subst hk;have:=aJ.o.size;have:=sB.o.1;omega) (ae vK.o.size vD.size));obtain⟨xc,xf,xz⟩:=SP.facts;have hset:dN gl.notes no=gl.notes.set (gl.notes.length-1) (x.fU no):=by rw[mN hno hgm,hx]
     rw[←hrt,←hset] at hput;have hS:=sA.o Z wZ ⟨some ⟨nb,0,none⟩,c',dN gl.notes no,b⟩ (by
      show bj Z 5 Ig _ (dN gl.notes no).length c' (dN gl.notes no);rw[iO];exact bW (R:=Ig) (by omega) Nt.bt (fun _=>rfl) hput) (pZ Qd.o fL.o.1 fL.o.2) BW.o
     rw[show(⟨some ⟨nb,0,none⟩,c',dN gl.notes no,b⟩:Gr).notes.length=gl.notes.length from iO _ _,show(⟨some ⟨nb,0,none⟩,c',dN gl.notes no,b⟩:Gr).p=(dN gl.notes no,b) from rfl,show(⟨some ⟨nb,0,none⟩,c',dN gl.notes no,b⟩:Gr).a=some ⟨nb,0,none⟩ from rfl,show(⟨some ⟨nb,0,none⟩,c',dN gl.notes no,b⟩:Gr).c=c' from rfl,show(⟨some ⟨nb,0,none⟩,c',dN gl.notes no,b⟩:Gr).fin=b from rfl,←show Y.iX u b no=Y.j3 u (dN gl.notes no,b) from HE.o] at hS;obtain⟨Q,qP⟩:∃Q,Y.iX u b no=Q:=⟨_,rfl⟩;rw[qP] at hS;have HS:=Um hS;have HJ:=Um qP;have jX:=Um wZ;clear qP hS hset hput hmp SP wZ vc vf vz Pq Px k0 k1 k2 k3 k4 klt QQ PK vD Dz hrt hx;go_wp2_with fail;refine HS.o.mono ?_;rintro e w9 ⟨rfl,hgo⟩;have si:=Um (hgo.after jX.o);clear hgo;go_wp2_with fail;go_ret;rw[HJ.o];exact⟨rfl,si.o⟩
 ·have hlb:(le != 0)=true:=by simpa using hle
  have HE:=Um (HR.o.trans (if_pos hle));clear hle fK lj;go_wp2_with fail;go_ret;rw[HE.o];exact⟨rfl,dE.of HY.o cM.o⟩
end
end
section
open Go.RowKit Go.Shelf
theorem IV{α:Type}{l:List α}(h:0<l.length)(y:α):l.set (l.length-1) y=l.dropLast++[y]:=by
 rcases List.eq_nil_or_concat l with rfl|⟨l,x,rfl⟩
 ·simp at h
 ·simp only[List.concat_eq_append,List.dropLast_concat,List.length_append,List.length_singleton,Nat.add_sub_cancel];rw[List.set_append_right _ _ (aa _)];simp
section
variable{w:World}{base b c:Nat}{g1:List Gr}{y:Gr}
theorem OG.finL(h:OG w base (.slice (some ⟨b,0,none⟩) g1.length c) g1)(hk:0<g1.length)(f:UInt8){gl:Gr}(hgl:g1[g1.length-1]'(by omega)=gl) :
  OG (w.setCell ⟨b,(g1.length-1)*2+1,none⟩ (.int .u8 f.toNat)) base (.slice (some ⟨b,0,none⟩) g1.length c) (g1.set (g1.length-1) {gl with fin:=f}):=by
 subst hgl;exact h.fin (g1.length-1) (by omega) f
theorem OG.OA(hk:0<g1.length)(h:OG w base (.slice (some ⟨b,0,none⟩) g1.length c) (g1.set (g1.length-1) y)){nb:Nat}(ha:y.a=some ⟨nb,0,none⟩)(i:Nat)(hi:i<y.notes.length)(j:Nat)(hj:j<5)(x':Nt)(v:Value)(hx:x'.cs=(y.notes[i]).cs.set j v) :
  OG (w.setCell ⟨nb,i*5+j,none⟩ v) base (.slice (some ⟨b,0,none⟩) g1.length c) (g1.set (g1.length-1) {y with notes:=y.notes.set i x'}):=by
 obtain⟨gs,hgs⟩:∃gs,g1.set (g1.length-1) y=gs:=⟨_,rfl⟩;have hlen:gs.length=g1.length:=by rw[←hgs,List.length_set]
 have hlt:g1.length-1<gs.length:=by omega
 have hy:gs[g1.length-1]'hlt=y:=by subst hgs;exact List.getElem_set_self _
 have hss:∀z,gs.set (g1.length-1) z=g1.set (g1.length-1) z:=fun z=>by rw[←hgs,List.set_set]
 rw[hgs,←hlen] at h;have h2:=h.cell (g1.length-1) hlt (nb:=nb) (by rw[hy];exact ha) i (by rw[hy];exact hi) j hj x' v (by simp only[hy];exact hx);simp only[hy] at h2;rw[hss,hlen] at h2;exact h2
theorem OG.iN(hk:0<g1.length)(h:OG w base (.slice (some ⟨b,0,none⟩) g1.length c) (g1.set (g1.length-1) y)) :
  w.cell? ⟨b,(g1.length-1)*2,none⟩=some (.slice y.a y.notes.length y.c)∧w.cell? ⟨b,(g1.length-1)*2+1,none⟩=some (.int .u8 y.fin.toNat)∧b<w.heap.size∧(∀i,w.frozen? ⟨b,i,none⟩=false)∧NR w base y:=by
 obtain⟨gs,hgs⟩:∃gs,g1.set (g1.length-1) y=gs:=⟨_,rfl⟩;have hlen:gs.length=g1.length:=by rw[←hgs,List.length_set]
 have hlt:g1.length-1<gs.length:=by omega
 have hy:gs[g1.length-1]'hlt=y:=by subst hgs;exact List.getElem_set_self _
 rw[hgs,←hlen] at h;obtain⟨h1,h2,h3⟩:=h.n8.cells (g1.length-1) hlt;rw[Nat.zero_add,hy] at h1 h2;have h4:=h.notes (g1.length-1) hlt;rw[hy] at h4;exact⟨h1,h2,h3,(cd h.own).1,h4⟩
theorem NR.JE{nb:Nat}(h:NR w base y)(ha:y.a=some ⟨nb,0,none⟩)(i:Nat)(hi:i<y.notes.length):rp w nb (i*5) y.notes[i]∧(∀k,w.frozen? ⟨nb,k,none⟩=false)∧base≤nb:=by
 have h1:=Gr.At.cells (g:=y) (bW (R:=Ig) (by omega) Nt.bt (fun _=>rfl) h) ha i hi;rw[Nat.zero_add] at h1;have h2:w.ownsRow base 63 5 (.slice y.a y.notes.length y.c) y.notes.length (y.notes.flatMap Nt.cs):=h;rw[ha] at h2;obtain⟨h3,h4,-⟩:=cd h2;exact⟨h1,h3,h4⟩
theorem OG.P3{a:Option Addr}{n:Nat}{gs:List Gr}(h:OG w base (.slice a n c) gs)(hn:gs.length=n):j0 w a c gs:=by
 subst hn;exact h.n8
theorem rv.O4(h:rv g1)(hy:∀x∈y.notes,x.Ok)(k:Nat):rv (g1.set k y):=fun g hg=>by
 rcases List.mem_or_eq_of_mem_set hg with hg|rfl
 ·exact h g hg
 ·exact hy
end
section
variable{w w':World}{pf pw:Nat}{R:Rp}{pv:Value}{Y:Sy}
theorem KP(h:bK w pf pw R pv Y){N:Nat}(hk:eb Y N)(hN:N≤99999)(u:Us)(ht:u.data.size≤100000)(hm:kl w)(b:UInt8)(no:Int)(Cd:-9223372036854775808≤no)(gO:no≤9223372036854775807) :
  Calls Tryz.prog 10 #[.pointer (some ⟨pf,0,none⟩),.agg #[.int .i64 u.u,.int .i64 u.g,.string u.data],.int .u8 b.toNat,.int .i64 no] w fun e w'=>e=.returned (.int .i64 (Y.iX u b no).2)∧gN w w' pf pw R pv (Y.iX u b no).1:=by
 obtain⟨hX,ax⟩:=Uo w #[.int .i64 u.u,.int .i64 u.g,.string u.data] 27;have vd:=Um (fun w1 (hb:Up w w1)=>ku (h.ak hb) hk.fg (by omega) u ht (hm.ak hb));have Iq:=Um (fun w1 (hb:Up w w1) (a:Option Addr) (c:Nat) (gs:List Gr) (hG:j0 w1 a c gs) (hO:rv gs) (hT:(aI (gs.map Gr.p)).length≤200000000)=>nM (h.ak hb) hk hN u ht (hm.ak hb) hG hO hT);have HY:=Um h;obtain⟨hfi,hln⟩:=js hk.fg.ok Y.dead u;have HR:=Um (show Y.iX u b no=if(Y.fs.aV Y.dead u).2.2≠0 then(Y,(Y.fs.aV Y.dead u).2.2) else match(Y.fs.aV Y.dead u).1.getLast? with|none=>(Y,5)|some g=>Y.du u ((Y.fs.aV Y.dead u).1.dropLast++[(dN g.1 no,b)]) from rfl);generalize Y.fs.aV Y.dead u=ld at vd HR hln hfi;obtain⟨lg,ln,le⟩:=ld;dsimp only at HR hln hfi;have lD:=Um hln;have E2:=Um hfi;have fL:=Um (ag Cd gO);clear h hk hm hln hfi Cd gO;go_enter Tryz.func10,Tryz.ntmps10;go_upto_region 1 with fail;generalize w.alloc _=W0 at hX ax⊢;have aJ:=Um ax;have HX:=Um hX;obtain⟨xc,xf,xz⟩:=hX.facts;clear hX ax;go_wp2_with fail;refine(vd.o _ aJ.o).mono ?_;rintro e w1 ⟨⟨base,a1,c1,g1,hbs,mC,rfl,fK,lj⟩,ar⟩;dsimp only at mC⊢;subst mC;have cM:=Um (ao aJ.o ar);have xI:=Um (HX.o.ak ar);have sB:=Um hbs;clear ar xc xf xz hbs;by_cases hle:le=0
 ·subst hle;have ik:=Um (HR.o.trans (if_neg (by decide)));have gO:=kn g1;have jj:=lD.o;have lh:g1.length≤c1:=fK.n8.sl.2.1;obtain⟨a0,c0,e0,-,GJ,uq⟩:=fK.form;injection e0 with e0 _ e1;subst e0 e1;rcases Nat.eq_zero_or_pos g1.length with h0|hpos
  ·have HE:=Um (show Y.iX u b no=(Y,5) by rw[ik.o,List.eq_nil_of_length_eq_zero h0];rfl);have GF:((g1.length:Int)==0)=true:=by rw[h0];rfl
   clear fK lj uq h0;go_wp2_with fail;go_ret;rw[HE.o];exact⟨rfl,gN.of HY.o cM.o⟩
  ·obtain⟨bl,rfl,hbb,hblt⟩:=uq.resolve_left (fun h=>by have:=h.2.1;omega);obtain⟨cA,cB,cz⟩:=fK.n8.cells (g1.length-1) (by omega);rw[Nat.zero_add] at cA cB;have hmem:g1[g1.length-1]∈g1:=List.getElem_mem _;have A8:=uj E2.o (List.mem_map_of_mem (f:=Gr.p) hmem);have hgf:=wL g1 _ hmem;have Ce:=lj _ hmem;have hgc:=(fK.Q9 _ hmem).2.1;have GH:=(fK.Q9 _ hmem).2.2.1;have EH:Y.iX u b no=Y.du u ((g1.map Gr.p).dropLast++[(dN (g1[g1.length-1]).p.1 no,b)]):=by rw[ik.o,fk hpos]
   have QR:=BD (g1.map Gr.p) (fk hpos) b fL.o.1 fL.o.2;have hFz:=(cd fK.own).1;have hF:=fK.finL hpos b rfl;generalize g1[g1.length-1]=gl at cA cB A8 EH hgf Ce hgc GH QR hF;have hgn:gl.notes≠[]:=A8;have hgm:0<gl.notes.length:=List.length_pos_iff.2 hgn;have hset:∀gz:Gr,gz.fin=b→(g1.set (g1.length-1) gz).map Gr.p=(g1.map Gr.p).dropLast++[(gz.notes,b)]:=fun gz hz=>by
    have h2:=IV (l:=g1.map Gr.p) (by rw[List.length_map];exact hpos) gz.p;rw[List.length_map] at h2;rw[List.map_set,h2];show _++[(gz.notes,gz.fin)]=_;rw[hz]
   have gr:=Um hset;have jW:=Um (show Y.iX u b no=Y.du u ((g1.map Gr.p).dropLast++[(dN gl.notes no,b)]) from EH);have BW:=Um (show(aI ((g1.map Gr.p).dropLast++[(dN gl.notes no,b)])).length≤200000000 by
    show(aI ((g1.map Gr.p).dropLast++[(dN gl.p.1 no,b)])).length≤_;omega)
   have o5:=Um lj;have Qd:=Um Ce;have GF:((g1.length:Int)==0)=false:=by simpa using (by omega:¬g1.length=0)
   have Ph:¬(g1.length:Int)=0:=by omega
   have M8:(1:Int)≤(g1.length:Int):=by omega
   have Cb:(0:Int)≤(g1.length:Int)-1:=by omega
   have J2:(g1.length:Int)-1<(g1.length:Int):=by omega
   have J1:((g1.length:Int)-1).toNat=g1.length-1:=by omega
   have hmm:gl.notes.length≤1048576:=by omega
   clear fK lj QR A8 hgf hmem Ce hset EH;go_upto_region 8 with fail;have jO:=xI.o.setOther ⟨bl,(g1.length-1)*2+1,none⟩ (.int .u8 b.toNat) (fun e=>by have e2:bl=w.heap.size:=e;have:=HX.o.lt;have:=sB.o;omega);have eM:=cM.o.setCell (show w.heap.size≤(⟨bl,(g1.length-1)*2+1,none⟩:Addr).block from ae aJ.o.size (ae sB.o hbb)) (.int .u8 b.toNat);clear cA cB cz hFz;generalize w1.setCell ⟨bl,(g1.length-1)*2+1,none⟩ (.int .u8 b.toNat)=w2 at hF jO eM⊢;have HF:=Um hF;have lZ:=Um jO;have cV:=Um eM;obtain⟨cA,cB,cz,cf,hnr⟩:=hF.iN hpos;obtain⟨a9,c9,e9,hle9,hc9,h9⟩:=bw hnr;injection e9 with e9 _ e10;dsimp only at e9 e10;obtain⟨nb,hnb,hnb1,Pp⟩:=h9.resolve_left (fun h=>by have:=h.2.1;dsimp only at this;omega);have hga:gl.a=some ⟨nb,0,none⟩:=e9.trans hnb;dsimp only at cA;rw[hga] at cA;have hy1:(1:Int)≤(gl.notes.length:Int):=by omega
   have A5:(0:Int)≤(gl.notes.length:Int)-1:=by omega
   have hy3:(gl.notes.length:Int)-1<(gl.notes.length:Int):=by omega
   have hy4:((gl.notes.length:Int)-1).toNat=gl.notes.length-1:=by omega
   have pO:IntKind.i64.wrap ((gl.notes.length:Int)-1)=(gl.notes.length:Int)-1:=by rw[IntKind.wrap_i64];omega
   have Rs:=Um hga;have Qn:=Um hnr;clear jO eM hF e9 hnb h9 hga hnr;have rV:(Up w2 w2.drew∧w2.drew.cell? ⟨bl,(g1.length-1)*2,none⟩=some (.slice (some ⟨nb,0,none⟩) gl.notes.length gl.c)):=⟨(Below.refl _ w2).drew,((Uq w2).drew.cell (p:=⟨bl,(g1.length-1)*2,none⟩) cz).trans cA⟩;refine wp_region_held_drew (S:=fun w'=>Up w2 w'∧w'.cell? ⟨bl,(g1.length-1)*2,none⟩=some (.slice (some ⟨nb,0,none⟩) gl.notes.length gl.c)) (by kernel_rfl) rV (fun cE=>?_);refine bH 12 [(0,38),(1,39),(2,40),(3,41),(4,42),(5,43),(6,44),(7,45),(8,46),(9,47),(10,48),(11,13)] (by kernel_rfl) (by kernel_rfl) rfl (fun _ _ _ _ _ h=>h) cE ?_
   iterate 12 (apply bo rfl rfl;(· (intro w9 dG;have yc:=dG.2;clear dG;go_simp;(try with_reducible rfl)));simp only[ah,ai,aj])
   refine bG ?_;refine wpAnyH_done (by kernel_rfl) ?_ _;have PA:=cE.1;clear cE rV;have QY:=HF.o.ak PA;have SQ:=lZ.o.ak PA;have Q5:=ao cV.o PA;clear PA cA cB cz cf;generalize w2.drew=D at QY SQ Q5⊢;by_cases hno:no=0
   ·have St:(no != 0)=false:=by simpa using hno
    have hz:=show({gl with fin:=b}:Gr).notes=dN gl.notes no by rw[hno,qW]
    have hS:=Iq.o D Q5 (some ⟨bl,0,none⟩) c1 _ (QY.P3 List.length_set) (o5.o.O4 (by rw[hz];exact pZ Qd.o fL.o.1 fL.o.2) _) (by rw[gr.o _ rfl,hz];exact BW.o);rw[List.length_set,gr.o _ rfl,hz,←jW.o] at hS;obtain⟨Q,qP⟩:∃Q,Y.iX u b no=Q:=⟨_,rfl⟩;rw[qP] at hS;have HS:=Um hS;have HJ:=Um qP;have jX:=Um Q5;obtain⟨xc,xf,xz⟩:=SQ.facts;clear qP hS hz QY Q5 SQ;go_wp2_with fail;refine HS.o.mono ?_;rintro e w9 ⟨rfl,hgo⟩;have si:=Um (hgo.after jX.o);clear hgo;go_wp2_with fail;go_ret;rw[HJ.o];exact⟨rfl,si.o⟩
   ·have St:(no != 0)=true:=by simpa using hno
    obtain⟨x,hx⟩:∃x,gl.notes[gl.notes.length-1]'(by omega)=x:=⟨_,rfl⟩;obtain⟨-,-,-,-,hnr⟩:=QY.iN hpos;obtain⟨Dz,hfz,hnb⟩:=hnr.JE Rs.o (gl.notes.length-1) (by show gl.notes.length-1<gl.notes.length;omega);rw[show({gl with fin:=b}:Gr).notes[gl.notes.length-1]'(by show gl.notes.length-1<gl.notes.length;omega)=x from hx] at Dz;obtain⟨k0,k1,k2,k3,k4,klt⟩:=Dz;have hnw:nb≠w.heap.size:=fun e=>by have:=HX.o.lt;have:=sB.o;omega
    have hnl:w.heap.size≤nb:=ae aJ.o.size (ae sB.o hnb);have h3:=OG.OA hpos QY Rs.o (gl.notes.length-1) (by show gl.notes.length-1<gl.notes.length;omega) 1 (by omega) {x with no:=no} (.int .i64 no) (by rw[show({gl with fin:=b}:Gr).notes[gl.notes.length-1]'(by show gl.notes.length-1<gl.notes.length;omega)=x from hx];rfl);go_upto_region 11 with fail;have iJ:=SQ.setOther ⟨nb,(gl.notes.length-1)*5+1,none⟩ (.int .i64 no) hnw;have rW:=Q5.setCell (show w.heap.size≤(⟨nb,(gl.notes.length-1)*5+1,none⟩:Addr).block from hnl) (.int .i64 no);clear k0 k1 k2 k3 k4 klt hfz hnr SQ Q5 QY;generalize D.setCell ⟨nb,(gl.notes.length-1)*5+1,none⟩ (.int .i64 no)=W3 at h3 iJ rW⊢;obtain⟨-,-,-,-,hnr⟩:=h3.iN hpos;have yw:gl.notes.length-1<(gl.notes.set (gl.notes.length-1) {x with no:=no}).length:=by rw[List.length_set];omega
    have SD:(gl.notes.set (gl.notes.length-1) {x with no:=no})[gl.notes.length-1]'yw={x with no:=no}:=List.getElem_set_self _;obtain⟨Dz,hfz,-⟩:=hnr.JE Rs.o (gl.notes.length-1) yw;rw[show({({gl with fin:=b}:Gr) with notes:=gl.notes.set (gl.notes.length-1) {x with no:=no}}:Gr).notes[gl.notes.length-1]'yw={x with no:=no} from SD] at Dz;obtain⟨k0,k1,k2,k3,k4,klt⟩:=Dz;dsimp only at k0 k1 k2 k3 k4;by_cases EC:x.tmp.size=0
    ·have hn:x.tmp.toList=[]:=by rw[aC];exact List.eq_nil_of_length_eq_zero (by rw[Array.length_toList];exact EC)
     have hrt:x.fU no={x with no:=no}:=by unfold Nt.fU;rw[if_pos EC]
     have iU:gl.notes.set (gl.notes.length-1) {x with no:=no}=dN gl.notes no:=by rw[mN hno hgm,hx,hrt]
     clear hnr SD EC hrt;have hz:=show({({gl with fin:=b}:Gr) with notes:=gl.notes.set (gl.notes.length-1) {x with no:=no}}:Gr).notes=dN gl.notes no from iU;have hS:=Iq.o W3 rW (some ⟨bl,0,none⟩) c1 _ (h3.P3 List.length_set) (o5.o.O4 (by rw[hz];exact pZ Qd.o fL.o.1 fL.o.2) _) (by rw[gr.o _ rfl,hz];exact BW.o);rw[List.length_set,gr.o _ rfl,hz,←jW.o] at hS;obtain⟨Q,qP⟩:∃Q,Y.iX u b no=Q:=⟨_,rfl⟩;rw[qP] at hS;have HS:=Um hS;have HJ:=Um qP;have jX:=Um rW;obtain⟨xc,xf,xz⟩:=iJ.facts;clear qP hS hz h3 rW iJ;go_wp2_with fail;refine HS.o.mono ?_;rintro e w9 ⟨rfl,hgo⟩;have si:=Um (hgo.after jX.o);clear hgo;go_wp2_with fail;go_ret;rw[HJ.o];exact⟨rfl,si.o⟩
    ·have hn:¬x.tmp.toList=[]:=by
      rw[aC];intro e;have:x.tmp.data.toList.length=x.tmp.size:=Array.length_toList;rw[e] at this;simp at this;omega
     have jj:x.tmp.toList.isEmpty=false:=by simpa using hn
     have hrt:x.fU no={x with no:=no,tmp:=x.dst}:=by unfold Nt.fU;rw[if_neg EC]
     have h4:=OG.OA hpos h3 Rs.o (gl.notes.length-1) yw 4 (by omega) {x with no:=no,tmp:=x.dst} (.string x.dst) (by rw[show({({gl with fin:=b}:Gr) with notes:=gl.notes.set (gl.notes.length-1) {x with no:=no}}:Gr).notes[gl.notes.length-1]'yw={x with no:=no} from SD];rfl);have iU:(gl.notes.set (gl.notes.length-1) {x with no:=no}).set (gl.notes.length-1) {x with no:=no,tmp:=x.dst}=dN gl.notes no:=by rw[List.set_set,mN hno hgm,hx,hrt]
     clear hnr SD EC hrt;go_upto_region 13 with fail;have GN:=iJ.setOther ⟨nb,(gl.notes.length-1)*5+4,none⟩ (.string x.dst) hnw;have Ox:=rW.setCell (show w.heap.size≤(⟨nb,(gl.notes.length-1)*5+4,none⟩:Addr).block from hnl) (.string x.dst);clear k0 k1 k2 k3 k4 klt hfz iJ rW h3 hn jj;generalize W3.setCell ⟨nb,(gl.notes.length-1)*5+4,none⟩ (.string x.dst)=W4 at h4 GN Ox⊢;have hz:=show({({({gl with fin:=b}:Gr) with notes:=gl.notes.set (gl.notes.length-1) {x with no:=no}}:Gr) with notes:=(gl.notes.set (gl.notes.length-1) {x with no:=no}).set (gl.notes.length-1) {x with no:=no,tmp:=x.dst}}:Gr).notes=dN gl.notes no from iU;have hS:=Iq.o W4 Ox (some ⟨bl,0,none⟩) c1 _ (h4.P3 List.length_set) (o5.o.O4 (by rw[hz];exact pZ Qd.o fL.o.1 fL.o.2) _) (by rw[gr.o _ rfl,hz];exact BW.o);rw[List.length_set,gr.o _ rfl,hz,←jW.o] at hS;obtain⟨Q,qP⟩:∃Q,Y.iX u b no=Q:=⟨_,rfl⟩;rw[qP] at hS;have HS:=Um hS;have HJ:=Um qP;have jX:=Um Ox;obtain⟨xc,xf,xz⟩:=GN.facts;clear qP hS hz h4 Ox GN;go_wp2_with fail;refine HS.o.mono ?_;rintro e w9 ⟨rfl,hgo⟩;have si:=Um (hgo.after jX.o);clear hgo;go_wp2_with fail;go_ret;rw[HJ.o];exact⟨rfl,si.o⟩
 ·have hlb:(le != 0)=true:=by simpa using hle
  have HE:=Um (HR.o.trans (if_pos hle));clear hle fK lj;go_wp2_with fail;go_ret;rw[HE.o];exact⟨rfl,gN.of HY.o cM.o⟩
end
end
section
open Go.RowKit
theorem aE.sy{w w':World}{pf:Nat}{Q:Rf}{S:Fs}(hr:aE w pf Q S){p q:Nat}{R:Rp}{pv:Value}{Y:Sy}(h:bK w p q R pv Y){F':Nat→Prop}(hs:aL (R.Y p q) F' w w'):aE w' pf Q S:=
 hr.mod hs.mod (fun k o hk ho=>by
  rcases hk with rfl|hk
  ·have hb:=h.bd;unfold au at hb;rw[hb] at ho;injection ho with ho;subst ho;exact⟨rfl,fun cur e=>by cases e⟩
  ·obtain⟨o',ho',hd⟩:=h.wd.kind hk;rw[ho] at ho';injection ho' with ho';subst ho';unfold gR at hd
   split at hd
   ·rename_i c t f;simp only[Bool.or_eq_true,beq_iff_eq] at hd;rcases hd with(rfl|rfl)|rfl<;>exact⟨rfl,fun cur e=>by cases e⟩
   ·exact⟨rfl,fun cur e=>by cases e⟩
   ·cases hd)
end
section
open Go.RowKit
section
variable{w w':World}{p q:Nat}{R:Rp}{pv:Value}{Y:Sy}
theorem bK.ry(h:bK w p q R pv Y){pf:Nat}{Q:Rf}{S:Fs}(hr:aE w pf Q S){F':Nat→Prop}(hs:aL (Q.F pf) F' w w'):bK w' p q R pv Y:=by
 have hk:∀(k:Nat) (o:Obj),Q.F pf k→w.heap[k]?=some o→gR o=false∧(∀cur,o≠.cells cur 271 (0,0))∧∀cur,o≠.cells cur 182 (0,0):=fun k o hk ho=>by
  obtain⟨o',ho',hd⟩:=hr.kind hk;rw[ho] at ho';injection ho' with ho';subst ho';unfold kQ at hd
  split at hd
  ·rename_i c t f;simp only[Bool.or_eq_true,beq_iff_eq] at hd;rcases hd with(rfl|rfl)|rfl<;>exact⟨rfl,(fun cur e=>by cases e),fun cur e=>by cases e⟩
  ·cases hd
 refine⟨h.bd.rf hr hs rfl,h.wd.mod hs.mod (fun k o h1 h2=>⟨(hk k o h1 h2).1,(hk k o h1 h2).2.1⟩),bq h.bD hs.mod (fun k h1 e=>?_)⟩;obtain⟨-,cur,hc⟩:=aT h.bD e;exact(hk k _ h1 hc).2.2 cur rfl
end
structure iQ(W:World)(N0 p q:Nat)(R:Rp)(pv:Value)(pf:Nat)(Q:Rf)(Y Z:Sy):Prop where
 y:bK W p q R pv Y
 r:i' W N0 pf Q Z
 f:∀k,R.Y p q k→N0≤k
section
variable{w w':World}{N0 p q:Nat}{R R':Rp}{pv:Value}{pf:Nat}{Q Q':Rf}{Y Y' Z Z':Sy}
theorem iQ.ak(h:iQ w N0 p q R pv pf Q Y Z)(hb:Up w w'):iQ w' N0 p q R pv pf Q Y Z:=⟨h.y.ak hb,h.r.ak hb,h.f⟩
theorem iQ.size(h:iQ w N0 p q R pv pf Q Y Z):N0≤w.heap.size:=h.r.size
theorem iQ.GR(h:iQ w N0 p q R pv pf Q Y Z)(hy:bK w' p q R' pv Y')(hs:aL (R.Y p q) (R'.Y p q) w w'):iQ w' N0 p q R' pv pf Q Y' Z∧Below N0 w w':=
 ⟨⟨hy,h.r.to (h.r.r.sy h.y hs) (hs.below h.f h.size) h.r.low rfl rfl h.r.now h.r.oS h.r.dd rfl,hs.aQ h.f h.size⟩,hs.below h.f h.size⟩
theorem iQ.GQ(h:iQ w N0 p q R pv pf Q Y Z)(hy:i' w' N0 pf Q' Z')(hs:aL (Q.F pf) (Q'.F pf) w w'):iQ w' N0 p q R pv pf Q' Y Z'∧Below N0 w w':=
 ⟨⟨h.y.ry h.r.r hs,hy,h.f⟩,hs.below h.r.low h.size⟩
theorem au.RG{b:Nat}{vs:Array Value}{T:TypeId}(hb:au w b vs T)(h:iQ w N0 p q R pv pf Q Y Z){F':Nat→Prop}(hs:aL (R.Y p q) F' w w')(h1:gR (.cells #[] T (0,0))=false)(h2:T≠109):au w' b vs T:=hb.sy h.y hs h1 h2
theorem au.RF{b:Nat}{vs:Array Value}{T:TypeId}(hb:au w b vs T)(h:iQ w N0 p q R pv pf Q Y Z){F':Nat→Prop}(hs:aL (Q.F pf) F' w w')(h1:kQ (.cells #[] T (0,0))=false):au w' b vs T:=hb.rf h.r.r hs h1
end
end
section
open Go.RowKit
theorem Tq(s:ByteArray)(k:Int)(w:World):(Op.equalIn 10000 271 (.agg #[.string s,.int .i64 k]) (.agg #[.string s,.int .i64 k])).run Tryz.prog w=.ok true w:=by
 have u1:=Tryz.underlying9;have u2:=Tryz.underlying3;have a1:=Tryz.isAgg9;have z1:=Tryz.sizeOf9;have a2:=Tryz.isAgg3;have z2:=Tryz.sizeOf3;have hS:Tryz.prog.underlying 271=some (.struct (Tryz.prog.fieldsOf 271)):=by kernel_rfl
 have hp:Tryz.prog.stoodInHeld 271=false:=by kernel_rfl
 rw[show(10000:Nat)=9999+1 from rfl,run_equalIn_agg w 9999 271 _ _ hS hp];simp only[Program.fieldsOf,Tryz.underlying271];go_simp
theorem P6(s:ByteArray)(k:Int)(w:World):(binOp .neq 271 (.agg #[.string s,.int .i64 k]) (.agg #[.string s,.int .i64 k])).run Tryz.prog w=.ok (.bool false) w:=by
 rw[run_neq_struct,Tq];rfl
theorem RN(b n mb mn:Int)(w:World):(Op.equalIn 10000 206 (.agg #[.int .i64 b,.int .i64 n,.int .i64 mb,.int .i64 mn]) (.agg #[.int .i64 b,.int .i64 n,.int .i64 mb,.int .i64 mn])).run Tryz.prog w=.ok true w:=by
 have u2:=Tryz.underlying3;have a2:=Tryz.isAgg3;have z2:=Tryz.sizeOf3;have hS:Tryz.prog.underlying 206=some (.struct (Tryz.prog.fieldsOf 206)):=by kernel_rfl
 have hp:Tryz.prog.stoodInHeld 206=false:=by kernel_rfl
 rw[show(10000:Nat)=9999+1 from rfl,run_equalIn_agg w 9999 206 _ _ hS hp];simp only[Program.fieldsOf,Tryz.underlying206];go_simp
theorem IT(b n mb mn:Int)(w:World):(binOp .neq 206 (.agg #[.int .i64 b,.int .i64 n,.int .i64 mb,.int .i64 mn]) (.agg #[.int .i64 b,.int .i64 n,.int .i64 mb,.int .i64 mn])).run Tryz.prog w=.ok (.bool false) w:=by
 rw[run_neq_struct,RN];rfl
theorem Fz(a:An){ea fa:Option Addr}{el ec fl fc:Nat}(w:World)(he:aA w ea el ec a.aB)(hf:aA w fa fl fc a.aB) :
  Calls Tryz.prog 134 #[.agg #[.int .i64 a.no,.int .i64 a.dev,.int .i64 a.kind,.int .i64 a.mode,.int .i64 a.uid,.int .i64 a.gid,.int .i64 a.mtime,.int .i64 a.ctime,.int .i64 a.an,.int .i64 a.up,.string a.data,.slice ea el ec],.agg #[.int .i64 a.no,.int .i64 a.dev,.int .i64 a.kind,.int .i64 a.mode,.int .i64 a.uid,.int .i64 a.gid,.int .i64 a.mtime,.int .i64 a.ctime,.int .i64 a.an,.int .i64 a.up,.string a.data,.slice fa fl fc]] w fun e w'=>e=.returned (.bool true)∧Up w w':=by
 have h1:=he.len;have h2:=hf.len;subst h1 h2;have hlen:a.aB.length≤9223372036854775807:=by have:=he.sl.2.1;have:=he.sl.2.2.1;omega
 have q0:=(au.new w #[.int .i64 a.no,.int .i64 a.dev,.int .i64 a.kind,.int .i64 a.mode,.int .i64 a.uid,.int .i64 a.gid,.int .i64 a.mtime,.int .i64 a.ctime,.int .i64 a.an,.int .i64 a.up,.string a.data,.slice ea a.aB.length ec] 99).eE (.cells #[.int .i64 a.no,.int .i64 a.dev,.int .i64 a.kind,.int .i64 a.mode,.int .i64 a.uid,.int .i64 a.gid,.int .i64 a.mtime,.int .i64 a.ctime,.int .i64 a.an,.int .i64 a.up,.string a.data,.slice fa a.aB.length fc] 99);have q1:=au.new (w.alloc (.cells #[.int .i64 a.no,.int .i64 a.dev,.int .i64 a.kind,.int .i64 a.mode,.int .i64 a.uid,.int .i64 a.gid,.int .i64 a.mtime,.int .i64 a.ctime,.int .i64 a.an,.int .i64 a.up,.string a.data,.slice ea a.aB.length ec] 99)) #[.int .i64 a.no,.int .i64 a.dev,.int .i64 a.kind,.int .i64 a.mode,.int .i64 a.uid,.int .i64 a.gid,.int .i64 a.mtime,.int .i64 a.ctime,.int .i64 a.an,.int .i64 a.up,.string a.data,.slice fa a.aB.length fc] 99;have hB:=al (al (Uq w) (.cells #[.int .i64 a.no,.int .i64 a.dev,.int .i64 a.kind,.int .i64 a.mode,.int .i64 a.uid,.int .i64 a.gid,.int .i64 a.mtime,.int .i64 a.ctime,.int .i64 a.an,.int .i64 a.up,.string a.data,.slice ea a.aB.length ec] 99)) (.cells #[.int .i64 a.no,.int .i64 a.dev,.int .i64 a.kind,.int .i64 a.mode,.int .i64 a.uid,.int .i64 a.gid,.int .i64 a.mtime,.int .i64 a.ctime,.int .i64 a.an,.int .i64 a.up,.string a.data,.slice fa a.aB.length fc] 99);have HE:=Um he;have HF:=Um hf;rw[World.size_alloc] at q1;clear he hf;obtain⟨es,hes⟩:∃es,a.aB=es:=⟨_,rfl⟩;rw[hes] at HE HF hlen q0 q1 hB⊢;clear hes;go_enter Tryz.func134,Tryz.ntmps134;go_wp2_with fail;generalize (w.alloc (.cells #[.int .i64 a.no,.int .i64 a.dev,.int .i64 a.kind,.int .i64 a.mode,.int .i64 a.uid,.int .i64 a.gid,.int .i64 a.mtime,.int .i64 a.ctime,.int .i64 a.an,.int .i64 a.up,.string a.data,.slice ea es.length ec] 99)).alloc (.cells #[.int .i64 a.no,.int .i64 a.dev,.int .i64 a.kind,.int .i64 a.mode,.int .i64 a.uid,.int .i64 a.gid,.int .i64 a.mtime,.int .i64 a.ctime,.int .i64 a.an,.int .i64 a.up,.string a.data,.slice fa es.length fc] 99)=W at q0 q1 hB⊢;have Q0:=Um q0;have Q1:=Um q1;have HB:=Um hB;clear hB;obtain⟨c0,-,z0⟩:=q0.facts;obtain⟨c1,-,z1⟩:=q1.facts;clear q0 q1
 go_loopw [5] (fun t5 wr=>∃k:Nat,k≤es.length∧t5=.int .i64 k∧Up W wr) (fun t5 _=>es.length-(intOf t5).toNat)
 case atStart=>exact⟨0,Nat.zero_le _,rfl,Below.refl _ _⟩
 case round=>
  obtain⟨k,hk,rfl,hb⟩:=hrel;have Hb:=Um hb;have HBb:=Um (HB.o.trans (hb.mono HB.o.size));clear c0 z0 c1 z1;obtain⟨c0,-,z0⟩:=(Q0.out.ak hb).facts;obtain⟨c1,-,z1⟩:=(Q1.out.ak hb).facts;clear hb;by_cases hlt:k<es.length
  ·have he:=HE.o.ak HBb.o;have hf:=HF.o.ak HBb.o;obtain⟨b,off,rfl,hbl⟩:=he.ey (by omega);obtain⟨b2,off2,rfl,hbl2⟩:=hf.ey (by omega);obtain⟨d0,d1⟩:=he.cell k hlt;obtain⟨d2,d3⟩:=hf.cell k hlt;generalize es[k]=x at d0 d1 d2 d3;have hnq:=P6 x.name x.no;have ig:(k:Int)<(es.length:Int):=by omega
   clear he hf;go_wp2_with fail
   go_quiet (fail)
   go_wp2_with fail;go_roundw
   case measure=>simp[intOf];omega
   case rel=>exact⟨k+1,by omega,by go_num,below_drewN Hb.o _⟩
  ·obtain rfl:k=es.length:=by omega
   go_wp2_with fail;go_ret;exact⟨rfl,HBb.o⟩
end
section
open Go.RowKit
section
variable{w w':World}{pw pf:Nat}{R:Rp}{Q:Rf}{S:Fs}
theorem K7(h:bh w pw R S)(hq:aE w pf Q S)(k:Int):∃(a:An) (ea:Option Addr) (el ec:Nat) (fa:Option Addr) (fl fc:Nat) (b:Bool),aA w ea el ec a.aB∧aA w fa fl fc a.aB∧
  (∀w1,Up w w1→Calls Tryz.prog 106 #[.pointer (some ⟨R.pt,0,none⟩),.int .i64 k] w1 fun e w'=>e=.returned (.tuple #[.agg #[.int .i64 a.no,.int .i64 a.dev,.int .i64 a.kind,.int .i64 a.mode,.int .i64 a.uid,.int .i64 a.gid,.int .i64 a.mtime,.int .i64 a.ctime,.int .i64 a.an,.int .i64 a.up,.string a.data,.slice ea el ec],.bool b])∧Up w1 w')∧
  ∀w1,Up w w1→Calls Tryz.prog 41 #[.pointer (some ⟨pf,0,none⟩),.int .i64 k] w1 fun e w'=>e=.returned (.agg #[.int .i64 a.no,.int .i64 a.dev,.int .i64 a.kind,.int .i64 a.mode,.int .i64 a.uid,.int .i64 a.gid,.int .i64 a.mtime,.int .i64 a.ctime,.int .i64 a.an,.int .i64 a.up,.string a.data,.slice fa fl fc])∧Up w1 w':=by
 cases hg:S.get k with
 |none=>exact⟨dh,none,0,0,none,0,0,false,aA.nil w,aA.nil w,fun w1 hb=>fN (h.ak hb) hg,fun w1 hb=>jh (hq.ak hb) hg⟩
 |some a=>
  obtain⟨ea,el,ec,he,hc⟩:=eA h hg;obtain⟨fa,fl,fc,hf,hd⟩:=fe hq hg;exact⟨a,ea,el,ec,fa,fl,fc,true,he,hf,hc,hd⟩
theorem CS(h:bh w pw R S)(hq:aE w pf Q S){N:Nat}(hk:av S N)(hp:Pl S)(hl:S.ns.length≤100000) :
  Calls Tryz.prog 80 #[.pointer (some ⟨pw,0,none⟩),.pointer (some ⟨pf,0,none⟩)] w fun e w'=>e=.returned (.bool true)∧Up w w':=by
 obtain⟨na,nc,hnv,gO,jj⟩:=hq.wN;obtain⟨g,cap,hdv,hle,sI,hgl,hcd,-,-⟩:=hq.jm hk.d1;have yD:=hk.d1;have Nl:=hk.d8;have hlen:=hq.len;have zx:=Um hp.len;have j8:=Um (fun w1 (ar:Up w w1)=>fi (h.ak ar) hk.d1);have lD:=Um (fun w1 (ar:Up w w1)=>IA (h.ak ar));have HRw:=Um (fun w1 (ar:Up w w1) x=>fM (h.ak ar) hk.d1 x);have HRf:=Um (fun w1 (ar:Up w w1) x=>jq (hq.ak ar) x);have HUs:=Um (fun w1 (ar:Up w w1) x=>Iy (h.ak ar) hk x);have HG:=Um (fun x=>K7 h hq x);have HWw:=Um (fun w1 (ar:Up w w1) x=>Cm (h.ak ar) hk hp hl x);have HWf:=Um (fun w1 (ar:Up w w1) x=>CT (hq.ak ar) hk hp hl x);have E0:=Um (fun w1 (ar:Up w w1) x=>mX (h.ak ar) hk.d1 x);have HOf:=Um (fun w1 (ar:Up w w1) x=>nh (hq.ak ar) x);have Rz:=Um (fun w1 (ar:Up w w1) x=>kG (h.ak ar) hk x);have HAf:=Um (fun w1 (ar:Up w w1) x=>kS (hq.ak ar) hk x);have je:=Um (fun w1 (ar:Up w w1) x=>E9 (h.ak ar) hk hp x);have Ub:=Um (fun w1 (ar:Up w w1) x=>FX (hq.ak ar) hk hl x);have hb:=hq.bd;rw[hnv,hdv,←hlen] at hb;have HB:=Um hb;have Qf:=Um h.bd;have HC:=Um hcd;have HK:=Um hk;obtain⟨pc,-,pz⟩:=h.bd.facts;obtain⟨bc,bf,bz⟩:=hb.facts;obtain⟨m,hm⟩:∃m,S.ds.length=m:=⟨_,rfl⟩;have HM:=Um hm;rw[←hlen] at gO;rw[hm] at j8 HB bc hle yD Nl;generalize S.ns.length=n at lD HB bc gO hl zx;clear h hk hp hq hnv hdv hb hcd hm hlen;go_enter Tryz.func80,Tryz.ntmps80;go_wp2_with fail
 go_region_held3 (fun w'=>(∀b o,b<w.heap.size→w'.cell? ⟨b,o,none⟩=w.cell? ⟨b,o,none⟩)∧Up w w') (first|with_reducible assumption|with_reducible exact ck _|with_reducible exact bI _|with_reducible exact bN (by assumption) (by assumption)|with_reducible exact bB (by assumption) _|with_reducible exact bu (by assumption) _|with_reducible exact bm (by assumption) (by assumption)|with_reducible exact cj (by assumption) (by assumption))
  (first
   |(go_at_call 105;((with_reducible refine(j8.o _ (And.right (by assumption))).mono ?_);rintro e w5 ⟨rfl,rfl⟩))
   |(go_at_call 128;((with_reducible refine(lD.o _ (And.right (by assumption))).mono ?_);rintro e w4 ⟨rfl,rfl⟩)))
 have Lt:=Um (show Up w w.drew from(Below.refl _ _).drew);generalize w.drew=w0 at Lt⊢;clear pc pz bc bf bz;go_wp2_with fail
 go_loopw [5] (fun t5 wr=>∃k:Nat,k≤m+2∧t5=.int .i64 k∧Up w wr) (fun t5 _=>m+2-(intOf t5).toNat)
 case atStart=>exact⟨0,Nat.zero_le _,rfl,Lt.o⟩
 case round=>
  obtain⟨k,hk,rfl,hbw⟩:=hrel;have Ry:=Um hbw;obtain⟨bc,bf,bz⟩:=(HB.o.ak hbw).facts;by_cases hlt:k≤m+1
  ·have lh:(k:Int)≤(m:Int)+1:=by omega
   have ax:=al hbw (.cells #[.int .i64 0,.int .i64 0,.int .i64 0,.int .i64 0] 206);have hX:=au.new wr #[.int .i64 0,.int .i64 0,.int .i64 0,.int .i64 0] 206;clear hbw;go_upto_region 7 with fail;clear bc bf bz;generalize wr.alloc _=X at ax hX⊢;have QS:=HRf.o X ax (k:Int);obtain⟨bc,bf,bz⟩:=(HB.o.ak ax).facts;obtain⟨xc,xf,xz⟩:=hX.facts;have HX:=Um hX;have aJ:=Um ax;by_cases hin:1≤k∧k≤m
   ·obtain⟨j,rfl⟩:∃j,k=j+1:=⟨k-1,by omega⟩;have hjl:j<S.ds.length:=by rw[HM.o];omega
    have hjm:(j:Int)<(m:Int):=by omega
    obtain⟨e1,e2,e3⟩:=KN HK.o hjl;have HU:=Um (show xM S ((j:Int)+1)=.agg #[.int .i64 S.ds[j].b,.int .i64 S.ds[j].n,.int .i64 S.ds[j].mb,.int .i64 S.ds[j].mn] by
     unfold xM;rw[e1])
    obtain⟨c0,c1,c2,c3,c4,c5⟩:=HC.o j hjl;rw[←ax.cell (p:=⟨g,j*6+2,none⟩) hgl] at c2;rw[←ax.cell (p:=⟨g,j*6+3,none⟩) hgl] at c3;rw[←ax.cell (p:=⟨g,j*6+4,none⟩) hgl] at c4;rw[←ax.cell (p:=⟨g,j*6+5,none⟩) hgl] at c5;rw[show((j+1:Nat):Int)=(j:Int)+1 by omega] at QS;have nD:(S.root ((j:Int)+1) != 0)=true:=by
     rw[e2];simpa using e3
    have D4:=Um QS;generalize S.ds[j]=v at c2 c3 c4 c5 HU;obtain⟨rt,hrt⟩:∃x,S.root ((j:Int)+1)=x:=⟨_,rfl⟩;rw[hrt] at D4 nD;have HRtE:=Um hrt;clear QS ax hX e1 e2 e3 c0 c1 hrt hin;go_wp2_with fail;refine D4.o.mono ?_;rintro e w5 ⟨rfl,rfl⟩;go_upto_region 9 with fail;have hY:=HX.o.cO (v0:=.int .i64 v.b) (v1:=.int .i64 v.n) (v2:=.int .i64 v.mb) (v3:=.int .i64 v.mn);have et:=aw (v0:=.int .i64 v.b) (v1:=.int .i64 v.n) (v2:=.int .i64 v.mb) (v3:=.int .i64 v.mn) aJ.o Ry.o.size;generalize (((w5.setCell ⟨wr.heap.size,0,none⟩ (.int .i64 v.b)).setCell ⟨wr.heap.size,1,none⟩ (.int .i64 v.n)).setCell ⟨wr.heap.size,2,none⟩ (.int .i64 v.mb)).setCell ⟨wr.heap.size,3,none⟩ (.int .i64 v.mn)=Y at hY et⊢;have iR:=Um (fun w1 (hb:Up Y w1)=>HRw.o w1 (ao et hb) ((j:Int)+1));have EV:=Um (fun w1 (hb:Up Y w1)=>HRf.o w1 (ao et hb) ((j:Int)+1));have Qe:=Um (fun w1 (hb:Up Y w1)=>HUs.o w1 (ao et hb) ((j:Int)+1));rw[HRtE.o] at iR EV;rw[HU.o] at Qe;have jQ:=Um et;have hnq:=IT v.b v.n v.mb v.mn;clear c2 c3 c4 c5 xc xf xz bc bf bz et;obtain⟨xc,xf,xz⟩:=hY.facts;clear hY
    go_region_held3 (fun w'=>(∀b o,b<Y.heap.size→w'.cell? ⟨b,o,none⟩=Y.cell? ⟨b,o,none⟩)∧Up Y w') (first|with_reducible assumption|with_reducible exact ck _|with_reducible exact bI _|with_reducible exact bN (by assumption) (by assumption)|with_reducible exact bB (by assumption) _|with_reducible exact bu (by assumption) _|with_reducible exact bm (by assumption) (by assumption)|with_reducible exact cj (by assumption) (by assumption))
     (first
      |(go_at_call 130;((with_reducible refine(iR.o _ (And.right (by assumption))).mono ?_);rintro e w6 ⟨rfl,rfl⟩))
      |(go_at_call 129;((with_reducible refine(EV.o _ (And.right (by assumption))).mono ?_);rintro e w7 ⟨rfl,rfl⟩))
      |(go_at_call 131;((with_reducible refine(Qe.o _ (And.right (by assumption))).mono ?_);rintro e w8 ⟨rfl,lT⟩)))
    all_goals
     have hbz:Up Y w8:=And.right (by assumption);have jX:=Um (ao jQ.o hbz);go_wp2_with fail;go_roundw
     case measure=>simp[intOf];omega
     case rel=>exact⟨j+2,by omega,by go_num,jX.o⟩
   ·have hout:¬(1≤(k:Int)∧(k:Int)≤S.ds.length):=by rw[HM.o];omega
    obtain⟨e1,e2⟩:=EP hout;have HU:=Um (show xM S (k:Int)=.agg #[.int .i64 0,.int .i64 0,.int .i64 0,.int .i64 0] by unfold xM;rw[e1]);rw[e2] at QS;have D4:=Um QS;have iR:=Um (fun w1 (hb:Up X w1)=>HRw.o w1 (ao ax hb) (k:Int));have EV:=Um (fun w1 (hb:Up X w1)=>HRf.o w1 (ao ax hb) (k:Int));have Qe:=Um (fun w1 (hb:Up X w1)=>HUs.o w1 (ao ax hb) (k:Int));rw[e2] at iR EV;rw[HU.o] at Qe;have hnq:=IT 0 0 0 0;clear QS ax hX e1 e2 hin hout;go_wp2_with fail;refine D4.o.mono ?_;rintro e w5 ⟨rfl,rfl⟩;go_upto_region 9 with fail
    go_region_held3 (fun w'=>(∀b o,b<w5.heap.size→w'.cell? ⟨b,o,none⟩=w5.cell? ⟨b,o,none⟩)∧Up w5 w') (first|with_reducible assumption|with_reducible exact ck _|with_reducible exact bI _|with_reducible exact bN (by assumption) (by assumption)|with_reducible exact bB (by assumption) _|with_reducible exact bu (by assumption) _|with_reducible exact bm (by assumption) (by assumption)|with_reducible exact cj (by assumption) (by assumption))
     (first
      |(go_at_call 130;((with_reducible refine(iR.o _ (And.right (by assumption))).mono ?_);rintro e w6 ⟨rfl,rfl⟩))
      |(go_at_call 129;((with_reducible refine(EV.o _ (And.right (by assumption))).mono ?_);rintro e w7 ⟨rfl,rfl⟩))
      |(go_at_call 131;((with_reducible refine(Qe.o _ (And.right (by assumption))).mono ?_);rintro e w8 ⟨rfl,lT⟩)))
    all_goals
     have hbz:Up w5 w8:=And.right (by assumption);have jX:=Um (ao aJ.o hbz);go_wp2_with fail;go_roundw
     case measure=>simp[intOf];omega
     case rel=>exact⟨k+1,by omega,by go_num,jX.o⟩
  ·obtain rfl:k=m+2:=by omega
   obtain⟨w1,pO⟩:∃w1,w1=wr:=⟨_,rfl⟩;subst pO;have hge:¬(m:Int)+2≤(m:Int)+1:=by omega
   have dL:(0:Int)≤S.last∧S.last≤100000:=by have:=zx.o;omega
   obtain⟨qk,zk⟩:=dL;clear hlt hk hbw HRw HRf HUs j8 lD HC;generalize S.last=last at HB bc zx qk zk;go_wp2_with fail;clear bc bf bz
   go_loopw [7] (fun t7 wr=>∃no:Int,-1≤no∧no≤last+2∧t7=.int .i64 no∧Up w wr) (fun t7 _=>(last+2-intOf t7).toNat)
   case atStart=>exact⟨-1,by omega,by omega,rfl,Ry.o⟩
   case round=>
    obtain⟨no,hno1,Po,rfl,hbw⟩:=hrel;have Ry:=Um hbw;obtain⟨bc,bf,bz⟩:=(HB.o.ak hbw).facts;by_cases hlt:no≤last+1
    ·obtain⟨a,ea,el,ec,fa,fl,fc,b,he,hf,hc,hd⟩:=HG.o no;have HGw:=Um hc;have HGf:=Um hd;have HE:=Um (ag he hf);have NY:=Um (fun w1 hb=>HWw.o w1 hb no);have NZ:=Um (fun w1 hb=>HWf.o w1 hb no);unfold sY at NY NZ;have TR:=Um (fun w1 hb=>E0.o w1 hb no);have TS:=Um (fun w1 hb=>HOf.o w1 hb no);have Ug:=Um (fun w1 hb=>Rz.o w1 hb no);have Uh:=Um (fun w1 hb=>HAf.o w1 hb no);have T8:=Um (fun w1 hb=>je.o w1 hb no);have T9:=Um (fun w1 hb=>Ub.o w1 hb no);generalize (S.fZ no).getD ByteArray.empty=ps at NY NZ;generalize (S.fZ no).isSome=is at NY NZ;generalize S.over no=ov at TR TS;generalize S.aQ no=ab at Ug Uh;generalize S.busy no=bs at T8 T9;obtain⟨pc,-,pz⟩:=(Qf.o.ak hbw).facts;clear he hf hc hd hbw;go_wp2_with fail;refine(HGw.o _ Ry.o).mono ?_;rintro e w3 ⟨rfl,bJ⟩;have ax:=al (ao Ry.o bJ) (.cells #[.int .i64 a.no,.int .i64 a.dev,.int .i64 a.kind,.int .i64 a.mode,.int .i64 a.uid,.int .i64 a.gid,.int .i64 a.mtime,.int .i64 a.ctime,.int .i64 a.an,.int .i64 a.up,.string a.data,.slice ea el ec] 99);have hX:=au.new w3 #[.int .i64 a.no,.int .i64 a.dev,.int .i64 a.kind,.int .i64 a.mode,.int .i64 a.uid,.int .i64 a.gid,.int .i64 a.mtime,.int .i64 a.ctime,.int .i64 a.an,.int .i64 a.up,.string a.data,.slice ea el ec] 99;go_upto_region 15 with fail;generalize w3.alloc _=X at ax hX⊢;have HX:=Um hX;have aJ:=Um ax;clear bc bf bz pc pz bJ hX ax;go_wp2_with fail;refine(NY.o _ aJ.o).mono ?_;rintro e w4 ⟨rfl,dI⟩;have oh:=Um (ao aJ.o dI);have HX4:=Um (HX.o.ak dI);clear dI;go_wp2_with fail;refine(NZ.o _ oh.o).mono ?_;rintro e w5 ⟨rfl,b9⟩;have hZ:=Um (ao oh.o b9);obtain⟨xc,xf,xz⟩:=(HX4.o.ak b9).facts;clear b9;go_upto_region 17 with fail;have TD:=Um (fun w1 (hb:Up w5 w1)=>HGf.o w1 (ao hZ.o hb));have NV:=Um (fun w1 (hb:Up w5 w1)=>Fz a w1 (HE.o.1.gI (ao hZ.o hb) (aa _)) (HE.o.2.gI (ao hZ.o hb) (aa _)));have HZ2:=Um (fun w1 (hb:Up w5 w1)=>TR.o w1 (ao hZ.o hb));have HZ3:=Um (fun w1 (hb:Up w5 w1)=>TS.o w1 (ao hZ.o hb));have HZ4:=Um (fun w1 (hb:Up w5 w1)=>Ug.o w1 (ao hZ.o hb));have HZ5:=Um (fun w1 (hb:Up w5 w1)=>Uh.o w1 (ao hZ.o hb));have HZ6:=Um (fun w1 (hb:Up w5 w1)=>T8.o w1 (ao hZ.o hb));have HZ7:=Um (fun w1 (hb:Up w5 w1)=>T9.o w1 (ao hZ.o hb))
     go_region_held3 (fun w'=>(∀b o,b<w5.heap.size→w'.cell? ⟨b,o,none⟩=w5.cell? ⟨b,o,none⟩)∧Up w5 w') (first|with_reducible assumption|with_reducible exact ck _|with_reducible exact bI _|with_reducible exact bN (by assumption) (by assumption)|with_reducible exact bB (by assumption) _|with_reducible exact bu (by assumption) _|with_reducible exact bm (by assumption) (by assumption)|with_reducible exact cj (by assumption) (by assumption))
      (first
       |(go_at_call 41;((with_reducible refine(TD.o _ (And.right (by assumption))).mono ?_);rintro e u0 ⟨rfl,hu0⟩))
       |(go_at_call 134;((with_reducible refine(NV.o _ (And.right (by assumption))).mono ?_);rintro e u1 ⟨rfl,M9⟩))
       |(go_at_call 122;((with_reducible refine(HZ2.o _ (And.right (by assumption))).mono ?_);rintro e u2 ⟨rfl,hu2⟩))
       |(go_at_call 125;((with_reducible refine(HZ3.o _ (And.right (by assumption))).mono ?_);rintro e u3 ⟨rfl,rfl⟩))
       |(go_at_call 135;((with_reducible refine(HZ4.o _ (And.right (by assumption))).mono ?_);rintro e u4 ⟨rfl,hu4⟩))
       |(go_at_call 136;((with_reducible refine(HZ5.o _ (And.right (by assumption))).mono ?_);rintro e u5 ⟨rfl,hu5⟩))
       |(go_at_call 137;((with_reducible refine(HZ6.o _ (And.right (by assumption))).mono ?_);rintro e u6 ⟨rfl,hu6⟩))
       |(go_at_call 138;((with_reducible refine(HZ7.o _ (And.right (by assumption))).mono ?_);rintro e u7 ⟨rfl,hu7⟩)))
     all_goals
      have hbz:Up w5 u7:=And.right (by assumption);have jX:=Um (ao hZ.o hbz);go_wp2_with fail;go_roundw
      case measure=>simp[intOf];omega
      case rel=>exact⟨no+1,by omega,by omega,by go_num,jX.o⟩
    ·go_wp2_with fail;go_ret;exact⟨rfl,Ry.o⟩
theorem Hi(h:bh w pw R S)(hq:aE w pf Q S){N:Nat}(hk:av S N)(hp:Pl S)(hl:S.ns.length≤100000) :
  Calls Tryz.prog 46 #[.pointer (some ⟨pw,0,none⟩),.pointer (some ⟨pf,0,none⟩)] w fun e w'=>e=.returned (.bool true)∧Up w w':=by
 have HS:=Um (CS h hq hk hp hl);clear h hq hk hp hl;go_enter Tryz.func46,Tryz.ntmps46;go_wp2_with fail;refine HS.o.mono ?_;rintro e w1 ⟨rfl,hb⟩;have HB:=Um hb;clear hb;go_wp2_with fail;go_ret;exact⟨rfl,HB.o⟩
end
end
section
open Go.RowKit Go.Shelf
section
variable{w w':World}{pf pw:Nat}{R:Rp}{pv:Value}{Y:Sy}
theorem CP(h:bK w pf pw R pv Y) :
  Calls Tryz.prog 44 #[.pointer (some ⟨pf,0,none⟩)] w fun e w'=>e=.returned (.int .i64 Y.count)∧w=w':=by
 have HN:=Um (ir h);obtain⟨pc,-,pz⟩:=h.bd.facts;clear h;go_enter Tryz.func44,Tryz.ntmps44;go_wp2_with fail;refine HN.o.mono ?_;rintro e w1 ⟨rfl,rfl⟩;go_wp2_with fail;go_ret;exact⟨rfl,rfl⟩
theorem Fy(h:bK w pf pw R pv Y) :
  Calls Tryz.prog 45 #[.pointer (some ⟨pf,0,none⟩)] w fun e w'=>e=.returned (.bool Y.dead)∧w=w':=by
 have HN:=Um (ir h);obtain⟨pc,-,pz⟩:=h.bd.facts;clear h;go_enter Tryz.func45,Tryz.ntmps45;go_wp2_with fail;refine HN.o.mono ?_;rintro e w1 ⟨rfl,rfl⟩;go_wp2_with fail;go_ret;exact⟨rfl,rfl⟩
theorem BQ(h:bK w pf pw R pv Y){pr:Nat}{Q:Rf}(hq:aE w pr Q Y.fs)(hc:Q.oS=.int .i64 Y.count)(hd:Q.dd=.bool Y.dead){N:Nat}(hk:av Y.fs N)(hp:Pl Y.fs)(hl:Y.fs.ns.length≤100000) :
  Calls Tryz.prog 19 #[.pointer (some ⟨pf,0,none⟩),.pointer (some ⟨pr,0,none⟩)] w fun e w'=>e=.returned (.bool true)∧Up w w':=by
 have Qx:=Um (fun w1 (hb:Up w w1)=>CP (h.ak hb));have HDe:=Um (fun w1 (hb:Up w w1)=>Fy (h.ak hb));have Oe:=Um (fun w1 (hb:Up w w1)=>Hi (h.wd.ak hb) (hq.ak hb) hk hp hl);obtain⟨pc,-,pz⟩:=h.bd.facts;have hblk:=hq.bd;rw[hc,hd] at hblk;obtain⟨qc,-,qz⟩:=hblk.facts;clear h hq hc hd hk hp hl hblk;go_enter Tryz.func19,Tryz.ntmps19;go_wp2_with fail
 go_region_held3 (fun w'=>(∀b o,b<w.heap.size→w'.cell? ⟨b,o,none⟩=w.cell? ⟨b,o,none⟩)∧Up w w') (first|with_reducible assumption|with_reducible exact ck _|with_reducible exact bI _|with_reducible exact bN (by assumption) (by assumption)|with_reducible exact bB (by assumption) _|with_reducible exact bu (by assumption) _|with_reducible exact bm (by assumption) (by assumption)|with_reducible exact cj (by assumption) (by assumption))
  ((first
   |(go_at_call 44;((with_reducible refine(Qx.o _ (And.right (by assumption))).mono ?_);rintro e w2 ⟨rfl,rfl⟩))
   |(go_at_call 45;((with_reducible refine(HDe.o _ (And.right (by assumption))).mono ?_);rintro e w3 ⟨rfl,rfl⟩))
   |(go_at_call 46;((with_reducible refine(Oe.o _ (And.right (by assumption))).mono ?_);rintro e w4 ⟨rfl,dI⟩))))
 all_goals
  have hbz:Up w w4:=And.right (by assumption);have jX:=Um hbz;clear hbz;go_wp2_with fail;go_ret;exact⟨rfl,jX.o⟩
end
end
end Go.Proofs.YtinflmadpnigfaaGreatDoor
