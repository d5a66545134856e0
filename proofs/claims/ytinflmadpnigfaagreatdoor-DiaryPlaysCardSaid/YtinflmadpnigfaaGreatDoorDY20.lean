import Derived.Shelf.Abstract
import Derived.Shelf.RegionOpen
import Derived.OwnWalkIn
import Derived.TacticsInMore
import Derived.LoopNIn
import Derived.LoopIn
import Derived.Test.YtinflmadpnigfaaGreatDoorDY18
import Derived.Test.YtinflmadpnigfaaGreatDoorDY19
import Derived.Test.YtinflmadpnigfaaGreatDoorDY16
import Derived.Test.YtinflmadpnigfaaGreatDoorDY3
import Derived.Test.YtinflmadpnigfaaGreatDoorDY1
import Derived.Test.YtinflmadpnigfaaGreatDoorDY9
set_option linter.unusedVariables false
set_option linter.unusedSimpArgs false
set_option maxRecDepth 100000
set_option maxHeartbeats 16000000
namespace Go.Proofs.YtinflmadpnigfaaGreatDoor
section
open Go.RowKit
def BV(r:Option (List (List Nt×UInt8)))(e:Ending)(w':World):Prop:=
 (r=none∧e=.returned (.tuple #[.slice none 0 0,.int .i64 2]))∨
 ∃a c gs,r=some (gs.map Gr.p)∧e=.returned (.tuple #[.slice a gs.length c,.int .i64 0])∧j0 w' a c gs∧rv gs
def rn(r:Option (List (List Nt×UInt8)))(B:Nat)(e:Ending)(w':World):Prop:=
 (r=none∧e=.returned (.tuple #[.slice none 0 0,.int .i64 2]))∨
 ∃base a c gs,B≤base∧r=some (gs.map Gr.p)∧e=.returned (.tuple #[.slice a gs.length c,.int .i64 0])∧OG w' base (.slice a gs.length c) gs∧rv gs
theorem rn.res{r:Option (List (List Nt×UInt8))}{B:Nat}{e:Ending}{w':World}(h:rn r B e w'):BV r e w':=by
 rcases h with h|⟨base,a,c,gs,-,h1,h2,h3,h4⟩
 ·exact .inl h
 ·exact .inr ⟨a,c,gs,h1,h2,h3.n8,h4⟩
theorem nn{r:Option (List (List Nt×UInt8))}{B:Nat}{w':World}(h:r=none):rn r B (.returned (.tuple #[.slice none 0 0,.int .i64 2])) w':=.inl ⟨h,rfl⟩
theorem oG{r:Option (List (List Nt×UInt8))}{B base:Nat}{w':World}{a:Option Addr}{c:Nat}{gs:List Gr}(hB:B≤base)(h:r=some (gs.map Gr.p))(hG:OG w' base (.slice a gs.length c) gs)(hO:rv gs):rn r B (.returned (.tuple #[.slice a gs.length c,.int .i64 0])) w':=.inr ⟨base,a,c,gs,hB,h,rfl,hG,hO⟩
theorem O'{a:Option Addr}{n c B j:Nat}(hfr:∀x,a=some x→B≤x.block)(hj:(Value.slice a n c).ownBlock=some j):B≤j:=by
 cases a with
 |none=>cases hj
 |some x=>
  simp only[Value.ownBlock,Option.some.injEq] at hj;subst hj;exact hfr x rfl
theorem kq(gs:List Gr)(h:gs.length-1<gs.length)(f:List Nt×UInt8→List Nt×UInt8)(g':Gr)(hf:f gs[gs.length-1].p=g'.p){h0:0<(gs.map Gr.p).length}:jG (gs.map Gr.p) h0 f=(gs.set (gs.length-1) g').map Gr.p:=by
 unfold jG;rw[List.map_set,←hf];simp
theorem CV(s:ByteArray)(w:World)(hs:s.size≤2000000) :
  Calls Tryz.prog 43 #[.string s] w fun e w'=>rn (iS s.data.toList) w.heap.size e w'∧Up w w':=by
 have hsl:s.data.toList.length=s.size:=Array.length_toList;have HL:=Um (Gx s w (by omega));have hpl:=(dM 10 s.data.toList).2;have hws:=sR 10 s.data.toList;have hlz:=ox (s:=s.data.toList) (by omega);have HP:=Um (show iS s.data.toList=((dB 10 s.data.toList).foldlM fu []).bind fun out=>if ca out=s.data.toList then some out else none from rfl);generalize hls:dB 10 s.data.toList=ls at HL hpl hws hlz HP;have HLz:=Um hlz;have hll:ls.length≤2000001:=by omega
 have EW:=Um (show lO ls≤2000001 by omega);clear hls hpl hws hlz hsl;go_enter Tryz.func43,Tryz.ntmps43;go_wp2_with (go_at_call 78;refine HL.o.mono ?_;rintro e w1 ⟨⟨g0,cap0,rfl,hO⟩,ar⟩;have o5:=Um hO;have kB:=Um ar;clear hO ar)
 go_loopw [4,6] (fun t4 t6 wr=>∃(k:Nat) (gs:List Gr),k≤ls.length∧t6=.int .i64 k∧OG wr w1.heap.size t4 gs∧(ls.take k).foldlM fu []=some (gs.map Gr.p)∧Up w1 wr) (fun _ t6 _=>ls.length-(intOf t6).toNat)
 case atStart=>exact⟨0,[],Nat.zero_le _,rfl,OG.nil _ _,rfl,Below.refl _ _⟩
 case round=>
  obtain⟨k,gs,hk,rfl,hG,hf,hW⟩:=hrel;have HF:=Um hf;have HW:=Um hW;have HG:=Um hG;obtain⟨a,c,rfl,hgc,hgm,hfrm⟩:=hG.form;have hwl:=hW.size;have kD:=Um (pT zS _ (fun t ht=>HLz.o t (List.mem_of_mem_take ht)) hf);have hgl:gs.length≤2000001:=by
   have h1:=kD.o.len;have h2:lO ls=lO (ls.take k)+lO (ls.drop k):=by rw[←j1,List.take_append_drop]
   have h3:=EW.o;rw[List.length_map] at h1;omega
  have Qs:=Um hfrm;clear hG hf hW hfrm;by_cases hlt:k<ls.length
  ·have HO:=Um (show OS wr w.heap.size _ ls from bY o5.o HW.o (aa _));have hcl:=HO.o.fJ k hlt;have E1:=Um (show(ls.take (k+1)).foldlM fu []=fu (gs.map Gr.p) ls[k] by rw[List.take_succ_eq_append_getElem hlt,nH,HF.o];rfl);have htz:=HLz.o ls[k] (List.getElem_mem _);generalize ls[k]=t at hcl E1 htz;have htl:(str t).toList=t:=by rw[aC,aH]
   have hts:(str t).size=t.length:=aP t;by_cases yH:t=[103]
   ·subst yH;obtain⟨g2,cap2,W,hrun,iW,eM,-⟩:=HG.o.app (by omega) hwl;have HR:=Um hrun;have HX:=Um (ag iW eM);clear hrun iW eM htz;go_wp2_with (at_builtin;refine aG rfl rfl rfl rfl HR.o ?_);go_roundw
    case measure=>simp[intOf];omega
    case rel=>exact⟨k+1,gs++[Gr.zero],by omega,by go_num,by simpa using HX.o.1,by rw[E1.o];unfold fu;rw[if_pos rfl,List.map_append];rfl,HW.o.trans HX.o.2⟩
   ·have SN:(t==[103])=false:=beq_eq_false_iff_ne.2 yH;by_cases h0:t=[]
    ·subst h0;clear htz;go_wp2_with fail;go_roundw
     case measure=>simp[intOf];omega
     case rel=>exact⟨k+1,gs,by omega,by go_num,HG.o,by rw[E1.o];unfold fu;rw[if_neg (by decide),if_pos rfl],HW.o⟩
    ·have bO:(!t.isEmpty)=true:=by cases t with|nil=>exact absurd rfl h0|cons=>rfl
     have LF:=Um yH;have H0:=Um h0;by_cases vm:gs.length=0
     ·have HN:=Um (show iS s.data.toList=none by
       have:(ls.take (k+1)).foldlM fu []=none:=by
        rw[E1.o];unfold fu;rw[if_neg LF.o,if_neg H0.o,dif_neg (by rw[List.length_map];omega)]
       rw[HP.o,←List.take_append_drop (k+1) ls,List.foldlM_append,this];rfl)
      have Nh:((gs.length:Int)-1)<0:=by omega
      clear vm htz;go_wp2_with fail;go_ret2;exact⟨nn HN.o,kB.o.trans (HW.o.mono kB.o.size)⟩
     ·obtain⟨b,rfl,GL,hblt⟩:∃b,a=some ⟨b,0,none⟩∧w1.heap.size≤b∧b<wr.heap.size:=by
       rcases Qs.o with⟨-,h,-⟩|h
       ·exact absurd h vm
       ·exact h
      have HK:=Um (show gs.length-1<gs.length by omega);have A9:1≤gs.length:=by omega
      have M8:(1:Int)≤(gs.length:Int):=by omega
      have Cb:(0:Int)≤(gs.length:Int)-1:=by omega
      have J2:(gs.length:Int)-1<(gs.length:Int):=by omega
      have J1:((gs.length:Int)-1).toNat=gs.length-1:=by omega
      have Tc:=HG.o.n8;obtain⟨cA,cB,-⟩:=Tc.cells (gs.length-1) HK.o;rw[Nat.zero_add] at cA cB;have hfz:=(cd HG.o.own).1;have hgi:∀out:List (List Nt×UInt8),out=gs.map Gr.p→0<out.length:=fun out e=>by rw[e,List.length_map];exact A9
      have L3:=Um hgi;clear hgi Tc vm;by_cases h1:t.length=1
      ·obtain⟨f,rfl⟩:=List.length_eq_one_iff.1 h1;have HX:=Um (HG.o.fin (gs.length-1) HK.o f);have ar:(([f]:List UInt8).length:Int)=1:=rfl;clear htz h1;go_wp2_with fail;go_roundw
       case measure=>simp[intOf];omega
       case rel=>exact⟨k+1,gs.set (gs.length-1) {gs[gs.length-1]'HK.out with fin:=f},by omega,by go_num,HX.o,by rw[E1.o];unfold fu;rw[if_neg LF.o,if_neg H0.o,dif_pos (L3.o _ rfl),if_pos (show[f].length=1 from rfl)];exact congrArg some (kq gs HK.o _ _ rfl),HW.o.trans ((Below.refl _ _).setCell GL _)⟩
      ·have ar:((t.length:Int)==1)=false:=by rw[beq_eq_false_iff_ne];omega
       have h1i:¬(t.length:Int)=1:=by omega
       have H1:=Um h1;have og:=Um (fun w=>FG (str t) w (by rw[aP];exact htz));rw[aH] at og;have hOx:=(oJ t htz).1;have hnl:(gs[gs.length-1]'HK.out).notes.length≤2000001:=by
        have h1:=(kD.o.notes (gs[gs.length-1]'HK.out).p (List.mem_map_of_mem (List.getElem_mem _))).1;have h2:lO ls=lO (ls.take k)+lO (ls.drop k):=by rw[←j1,List.take_append_drop]
        have h3:=EW.o;have h4:((gs[gs.length-1]'HK.out).p).1.length=(gs[gs.length-1]'HK.out).notes.length:=rfl;omega
       have hnm:(gs[gs.length-1]'HK.out).notes.length≤(gs[gs.length-1]'HK.out).c:=((HG.o.n8.at' _ (List.getElem_mem (h:=HK.o))).2.1);have hnm2:(gs[gs.length-1]'HK.out).c≤9223372036854775807:=((HG.o.n8.at' _ (List.getElem_mem (h:=HK.o))).2.2.1);obtain⟨a',c',W,Ol,hnr,lS,hfr⟩:=HG.o.copy (gs.length-1) HK.o (by omega) hwl;have ik:=Um Ol;have OK:=Um hnr;have vK:=Um lS;have HFr:=Um hfr;have HGW:=Um (HG.o.ak lS);have Ri:=Um (show OS W w.heap.size _ ls from bY HO.o lS (aa _));have hclW:=(lS.cell (p:=⟨g0,k,none⟩) (jo hcl).2).trans hcl;have SR:=lS.size;clear h1 htz Ol hnr lS hfr;go_upto_region 16 with(at_builtin;refine aG rfl rfl rfl rfl ik.o ?_);generalize hxx:fE t=x at og hOx;have HXx:=Um hxx;have HOx:=Um hOx;clear hxx hOx;unfold Nt.v at og;go_wp2_with (first|(go_at_call 79;refine(og.o _).mono ?_;rintro e w2 ⟨rfl,aD⟩;obtain⟨b2,cap2,W3,Oj,J6,vk,Sn,Bb⟩:=NR.app (w:=w2) (base:=w1.heap.size) (bY OK.o aD (aa _)) x (by show(gs[gs.length-1]'HK.out).notes.length≤_;omega) (ae hwl (ae SR aD.size));have hRen:=HG.o.O9 (W:=W3) (gL:=⟨a',c',(gs[gs.length-1]'HK.out).notes,(gs[gs.length-1]'HK.out).fin⟩) (gn:=⟨some ⟨b2,0,none⟩,cap2,(gs[gs.length-1]'HK.out).notes++[x],(gs[gs.length-1]'HK.out).fin⟩) (gs.length-1) HK.o ((vK.o.trans (aD.mono SR)).trans ((Below.refl _ w2).alloc (ae SR aD.size) _)) (bY (bY OK.o aD (aa _)) ((Below.refl _ w2).alloc (aa _) _) (aa _)) HFr.o vk J6 (Sn.imp id (fun e=>⟨b2,rfl,by rw[e];have:=aD.size;omega⟩)) rfl;obtain⟨fK,hcW,hfW,hlW⟩:=hRen;have c3:=(hcW ((gs.length-1)*2)).trans cA;have od:=Um Oj;have D6:=Um fK;have Ue:=Um (((vK.o.trans (aD.mono SR)).trans ((Below.refl _ w2).alloc (ae SR aD.size) _)).trans (vk.below (B:=wr.heap.size) (fun j hj=>O' HFr.o hj) (by simp;have:=aD.size;omega)));clear aD Oj J6 vk Sn fK hcW)|(at_builtin;refine aG rfl rfl rfl rfl od.o ?_));go_roundw
       case measure=>simp[intOf];omega
       case rel=>exact⟨k+1,gs.set (gs.length-1) _,by omega,by go_num,by have:=D6.o;simp only[List.length_append,List.length_singleton] at this;exact this,by rw[E1.o];unfold fu;rw[if_neg LF.o,if_neg H0.o,dif_pos (L3.o _ rfl),if_neg H1.o,HXx.o];exact congrArg some (kq gs HK.o _ _ rfl),HW.o.trans ((Ue.o.mono hwl).setCell GL _)⟩
  ·obtain rfl:k=ls.length:=by omega
   have Ic:=Um (show iS s.data.toList=if ca (gs.map Gr.p)=s.data.toList then some (gs.map Gr.p) else none by
    have h1:=HF.o;rw[List.take_length] at h1;rw[HP.o,h1];rfl)
   have Lj:=Um (show rv gs from fun g hg x hx=>(kD.o.notes g.p (List.mem_map_of_mem hg)).2 x hx);have HGr:=Um HG.o.n8;have yW:=Um (tn a c gs wr HGr.o Lj.o (by
    have h1:=kD.o.text;have h3:=EW.o;rw[List.take_length] at h1;omega))
   by_cases hw:ca (gs.map Gr.p)=s.data.toList
   ·have HY:=Um (show iS s.data.toList=some (gs.map Gr.p) by rw[Ic.o,if_pos hw]);rw[hw,eC] at yW;clear hw;go_wp2_with (go_at_call 34;refine yW.o.mono ?_;rintro e w2 ⟨rfl,aD⟩);go_ret2;exact⟨oG kB.o.size HY.o (HG.o.ak aD) Lj.o,kB.o.trans ((HW.o.mono kB.o.size).trans (aD.mono (ae kB.o.size hwl)))⟩
   ·have HY:=Um (show iS s.data.toList=none by rw[Ic.o,if_neg hw]);have hne:str (ca (gs.map Gr.p))≠s:=fun e=>hw (by rw[←e,aH]);have gO:=sD hne;have jj:=o9 hne;clear hw hne;generalize str (ca (gs.map Gr.p))=D at yW gO jj;go_wp2_with (go_at_call 34;refine yW.o.mono ?_;rintro e w2 ⟨rfl,aD⟩);go_ret2;exact⟨nn HY.o,kB.o.trans ((HW.o.mono kB.o.size).trans (aD.mono (ae kB.o.size hwl)))⟩
end
section
open Go.RowKit Go.Shelf
attribute [local go_sem] Oper.semAt_some
def AV(b:Nat)(w:World):Nat:=match w.cell? ⟨b,0,none⟩ with
 |some (.string t)=>t.size
 |_=>0
theorem GC(t:ByteArray)(c:UInt8)(w:World) :
  Calls Tryz.prog 141 #[.string t,.string (ByteArray.mk #[c])] w fun e w'=>e=.returned (.int .i64 (Lib.indexByte t.data.toList c))∧w=w':=by
 refine(Tryz.strings_Index_one t c w).mono ?_;rintro e w' ⟨rfl,rfl⟩;exact⟨rfl,rfl⟩
theorem rE(l:List UInt8)(a b:Nat):(str l).extract a b=str ((l.take b).drop a):=by
 have:((str l).extract a b).data.toList=(str ((l.take b).drop a)).data.toList:=by rw[jl,aH,aH]
 rw[←eC ((str l).extract a b),this,aH]
theorem IK{α:Type}(pre:List α)(x:α)(y:List α):pre++[x]=(pre++([x]++y)).take (pre.length+1):=by
 rw[←List.append_assoc,List.take_left' (by simp)]
theorem zT(n:Nat)(hn:1≤n)(c:UInt8)(Bs Bp Bz:Nat)(hps:Bs≠Bp)(hzs:Bs≠Bz)(l:List UInt8)(hl:l.length≤2000000)(w:World)
  (hs:au w Bs #[.string (str l)] 9) (hp:au w Bp #[.string (ByteArray.mk #[c])] 9) (hz:au w Bz #[.int .i64 0] 3) :
  Lb (fun k=>k=Bs∨k=Bp∨k=Bz) Fence.wide n Tryz.prog 139 #[.pointer (some ⟨Bp,0,none⟩),.pointer (some ⟨Bs,0,none⟩),.pointer (some ⟨Bz,0,none⟩)] (fun x:List UInt8=>#[.string (str x)])
   (fun xs=>xs=dB c l) (fun pre=>∃m,0<m∧m≤(dB c l).length∧pre=(dB c l).take m) (fun pre x=>(pre++[x]) <+: dB c l) w:=fun L J Jx W hW hWs hJ hJx hY h0=>by
 have Hs:=Um (show au W Bs #[.string (str l)] 9 from(hW.2 Bs (.inl rfl)).trans hs);have Hp:=Um (show au W Bp #[.string (ByteArray.mk #[c])] 9 from(hW.2 Bp (.inr (.inl rfl))).trans hp);have Hz:=Um (show au W Bz #[.int .i64 0] 3 from(hW.2 Bz (.inr (.inr rfl))).trans hz);clear hs hp hz hW hWs;refine callsIn_of_wp Tryz.func139 rfl trivial ?_ rfl;simp only[Tryz.ntmps139,List.size_toArray,List.length_cons,List.length_nil,Nat.reduceAdd,Nat.reduceSub,Array.replicate_succ,Array.replicate_zero,List.push_toArray,List.append_toArray,List.nil_append,List.cons_append];have hP:=Hp.o;obtain⟨cp,-,-⟩:=hP.facts;clear hP;gi_wp2
 gi_loopw [] (fun wr=>∃(pre:List (List UInt8)) (rest:List UInt8),dB c l=pre++dB c rest∧rest.length≤2000000∧J pre wr∧au wr Bs #[.string (str rest)] 9∧au wr Bp #[.string (ByteArray.mk #[c])] 9∧au wr Bz #[.int .i64 0] 3) (fun wr=>AV Bs wr)
 case atStart=>exact⟨[],l,rfl,hl,h0,Hs.o,Hp.o,Hz.o⟩
 case round=>
  obtain⟨pre,rest,hsp,hrl,S8,hbs,hbp,hbz⟩:=hrel;have Lu:=Um S8;have TI:=Um hsp;have sB:=Um hbs;have HBp:=Um hbp;have HBz:=Um hbz;have hN:pre.length<(dB c l).length:=by
   rw[hsp,List.length_append];have:=(dM c rest).1;omega
  have HN:=Um hN;have HV:=Um (fun(x:List UInt8) (r:List (List UInt8)) (h:dB c rest=x::r)=>(show(pre++[x]) <+: dB c l from⟨r,by rw[hsp,h];simp⟩));obtain⟨cs,fs,ls⟩:=hbs.facts;obtain⟨cp,fp,lp⟩:=hbp.facts;obtain⟨cz,-,-⟩:=hbz.facts;clear hsp S8 hbs hbp hbz hN;have TZ:=Um (fun w=>GC (str rest) c w);rw[aH] at TZ;by_cases hm:Lib.indexByte rest c=-1
  ·have sh:=Um (dK c rest (lf rest c hm));rw[hm] at TZ;clear hm;gi_wp2;refine⟨trivial,?_⟩;refine(callsIn_wide.2 (TZ.o wr)).mono ?_;rintro e w1 ⟨rfl,rfl⟩;obtain⟨fn,tmps,assign,body,hy,hR⟩:=hY pre rest wr Lu.o (HV.o _ _ sh.o);gi_wp2;refine hR.mono ?_;rintro e W3 (⟨rfl,LP,mD⟩|⟨rfl,yG⟩)
   ·gi_wp2
    go_end0
    exact⟨⟨_,rfl⟩,.inl ⟨pre++[rest],by rw[TI.o,sh.o],LP⟩⟩
   ·gi_wp2
    go_end0
    exact⟨⟨_,rfl⟩,.inr ⟨pre++[rest],⟨(dB c l).length,by rw[TI.o,sh.o];simp,aa _,by rw[List.take_length,TI.o,sh.o]⟩,yG⟩⟩
  ·have hge:=Lib.indexByte_ge rest c;obtain⟨i,hi⟩:∃i:Nat,Lib.indexByte rest c=i:=⟨(Lib.indexByte rest c).toNat,by omega⟩;obtain⟨h1,h2,h3⟩:=ki rest c i hi;have gr:=Um (show dB c rest=[rest.take i]++dB c (rest.drop (i+1)) by
    conv=>lhs;rw[h2,gu,dK c _ h3])
   have hsz:(str rest).size=rest.length:=aP rest;have kC:=Um hsz;have mH:i<(str rest).size:=by rw[hsz];exact h1
   have HF:=Um (show(str rest).extract 0 i=str (rest.take i) from(rE rest 0 i).trans (by rw[List.drop_zero]));have HD:=Um (show(str rest).extract (i+1) (str rest).size=str (rest.drop (i+1)) from(rE rest (i+1) _).trans (by rw[hsz,List.take_length]));have hle:(str rest).size≤2000000:=by rw[hsz];exact hrl
   rw[hi] at TZ;clear hm hge hi h1 h2 h3 hsz;gi_wp2;refine⟨trivial,?_⟩;refine(callsIn_wide.2 (TZ.o wr)).mono ?_;rintro e w1 ⟨rfl,rfl⟩;obtain⟨fn,tmps,assign,body,hy,hR⟩:=hY pre (rest.take i) wr Lu.o (HV.o _ _ gr.o);have A5:(Instr.yield L #[.string ((str rest).extract 0 i)]).run Tryz.prog wr=.ok (.round L fn tmps assign body) wr:=by rw[HF.o];exact hy
   clear hy;gi_wp2;refine hR.mono ?_;rintro e W3 (⟨rfl,LP,mD⟩|⟨rfl,yG⟩)
   ·have TY:=Um LP;have ez:=Um (show au W3 Bs #[.string (str rest)] 9 from(mD.2 Bs (.inl rfl)).trans sB.o);have H9:=Um (show au W3 Bp #[.string (ByteArray.mk #[c])] 9 from(mD.2 Bp (.inr (.inl rfl))).trans HBp.o);have HZ3:=Um (show au W3 Bz #[.int .i64 0] 3 from(mD.2 Bz (.inr (.inr rfl))).trans HBz.o);have rW:=ez.o;have hP3:=H9.o;obtain⟨ds,gs,es⟩:=rW.facts;obtain⟨dp,-,-⟩:=hP3.facts;clear LP mD rW hP3 cs fs ls cp fp lp cz A5 hR;gi_wp2;rw[HD.o];refine⟨⟨pre++[rest.take i],rest.drop (i+1),by rw[TI.o,gr.o,List.append_assoc],by rw[List.length_drop];omega,?_,ez.o.set 0 _,H9.o.setOther _ _ hps,HZ3.o.setOther _ _ hzs⟩,?_⟩
    ·exact hJ _ _ _ TY.o (jS.dH (S:=fun k=>k=Bs) ((Mod.refl (fun k=>k=Bs) W3).setCell (a:=⟨Bs,0,none⟩) (.inl rfl) _) (fun k hk=>.inl hk))
    ·have e1:AV Bs wr=rest.length:=by unfold AV;rw[sB.o.cell];exact kC.o
     have e2:AV Bs (W3.setCell ⟨Bs,0,none⟩ (.string (str (rest.drop (i+1)))))=(rest.drop (i+1)).length:=by unfold AV;rw[(ez.o.set 0 _).cell];exact aP _
     rw[e1,e2,List.length_drop];have:=kC.o;omega
   ·gi_wp2;refine bodyPost_ret (results_none rfl _ _ _) rfl ?_;exact⟨⟨_,rfl⟩,.inr ⟨pre++[rest.take i],⟨pre.length+1,by omega,HN.o,by rw[TI.o,gr.o];exact IK _ _ _⟩,yG⟩⟩
end
section
open Go.RowKit
def O5(h:Nat):Value:=.func (.func 139) #[] #[.pointer (some ⟨h+1,0,none⟩),.pointer (some ⟨h,0,none⟩),.pointer (some ⟨h+2,0,none⟩)]
theorem IX(s p:ByteArray)(w:World) :
  Calls Tryz.prog 81 #[.string s,.string p,.int .i64 0] w fun e w'=>e=.returned (O5 w.heap.size)∧w'=((w.alloc (.cells #[.string s] 9)).alloc (.cells #[.string p] 9)).alloc (.cells #[.int .i64 0] 3):=by
 go_enter Tryz.func81,Tryz.ntmps81;go_wp2_with fail;go_ret;exact⟨rfl,rfl⟩
theorem Mp(s p:ByteArray)(w:World) :
  Calls Tryz.prog 47 #[.string s,.string p] w fun e w'=>e=.returned (O5 w.heap.size)∧au w' w.heap.size #[.string s] 9∧au w' (w.heap.size+1) #[.string p] 9∧au w' (w.heap.size+2) #[.int .i64 0] 3∧Up w w'∧w'.heap.size=w.heap.size+3:=by
 have h0:=(((au.new w #[.string s] 9).eE (.cells #[.string p] 9)).eE (.cells #[.int .i64 0] 3));have h1:=((au.new (w.alloc (.cells #[.string s] 9)) #[.string p] 9).eE (.cells #[.int .i64 0] 3));have h2:=au.new ((w.alloc (.cells #[.string s] 9)).alloc (.cells #[.string p] 9)) #[.int .i64 0] 3;have hz:(w.alloc (.cells #[.string s] 9)).heap.size=w.heap.size+1:=by simp
 have fT:((w.alloc (.cells #[.string s] 9)).alloc (.cells #[.string p] 9)).heap.size=w.heap.size+2:=by simp
 have J0:(((w.alloc (.cells #[.string s] 9)).alloc (.cells #[.string p] 9)).alloc (.cells #[.int .i64 0] 3)).heap.size=w.heap.size+3:=by simp
 have hB:=al (al (al (Uq w) (.cells #[.string s] 9)) (.cells #[.string p] 9)) (.cells #[.int .i64 0] 3);rw[hz] at h1;rw[fT] at h2;have H:=Um (ag h0 (ag h1 (ag h2 (ag hB J0))));clear h0 h1 h2 hz fT J0 hB;go_enter Tryz.func47,Tryz.ntmps47;go_wp2_with (go_at_call 81;refine(IX _ _ _).mono ?_;rintro e w1 ⟨rfl,rfl⟩);go_ret;exact⟨rfl,H.o⟩
end
section
open Go.RowKit
theorem Dh{c:UInt8}(h:c.toNat=109∨c.toNat=99∨c.toNat=120):(c=109∧(c.toNat:Int)=109)∨(c=99∧(c.toNat:Int)=99)∨(c=120∧(c.toNat:Int)=120):=by
 rcases h with h|h|h
 ·exact .inl ⟨UInt8.toNat_inj.1 h,by omega⟩
 ·exact .inr (.inl ⟨UInt8.toNat_inj.1 h,by omega⟩)
 ·exact .inr (.inr ⟨UInt8.toNat_inj.1 h,by omega⟩)
def nX(x:Nt):Nat→List UInt8
 |0=>bx x.src++(bx x.dst++(bx x.tmp++[10]))
 |1=>bx x.dst++(bx x.tmp++[10])
 |2=>bx x.tmp++[10]
 |_=>[10]
theorem I0(s d t:ByteArray)(w:World):(Instr.index 129 (.agg #[.string s,.string d,.string t]) (.int .i64 0)).run Tryz.prog w=.ok (.string s) w:=by first|kernel_rfl|rfl
theorem IZ(s d t:ByteArray)(w:World):(Instr.index 129 (.agg #[.string s,.string d,.string t]) (.int .i64 1)).run Tryz.prog w=.ok (.string d) w:=by first|kernel_rfl|rfl
theorem IY(s d t:ByteArray)(w:World):(Instr.index 129 (.agg #[.string s,.string d,.string t]) (.int .i64 2)).run Tryz.prog w=.ok (.string t) w:=by first|kernel_rfl|rfl
theorem RC(b:Nat)(l:List UInt8)(w:World)(h:jN b l w)(hl:l.length≤1000000000) :
  Calls Tryz.prog 53 #[.pointer (some ⟨b,0,none⟩),.int .u8 10] w fun e w'=>e=.returned .nilIface∧jN b (l++[10]) w'∧Below b w w'∧Ci b w w':=Ma b l 10 w h hl
theorem qt(a:Option Addr)(c:Nat)(gs:List Gr)(w:World)(hG:j0 w a c gs)(hO:rv gs)(hT:(aI (gs.map Gr.p)).length≤200000000) :
  Calls Tryz.prog 22 #[.slice a gs.length c] w fun e w'=>e=.returned (.string (str (ca (gs.map Gr.p))))∧Up w w':=by
 have HG:=Um hG;have HO:=Um hO;have hlen:gs.length≤9223372036854775807:=ae hG.sl.2.1 hG.sl.2.2.1;have HF:=Um (nN a c gs w hG hO);clear hG hO
 cases hf:bU (gs.map Gr.p)
 ·rw[hf] at HF;have HV:=Um (show ca (gs.map Gr.p)=[] by unfold ca;rw[hf];rfl);clear hf;go_enter Tryz.func22,Tryz.ntmps22;go_wp2_with (go_at_call 23;refine HF.o.mono ?_;rintro e w1 ⟨rfl,ar⟩);go_ret;exact⟨by rw[HV.o];rfl,ar⟩
 ·rw[hf] at HF;have HV:=Um (show ca (gs.map Gr.p)=aI (gs.map Gr.p) by unfold ca;rw[hf];rfl);have jZ:=Um (eW hf);clear hf;go_enter Tryz.func22,Tryz.ntmps22;go_wp2_with (go_at_call 23;refine HF.o.mono ?_;rintro e w1 ⟨rfl,ar⟩);have cM:=Um ar;have hwb:=ar.size;have Lt:=Um (zy.new w1);have oc:=Um (al ar (.cells #[.pointer none,.slice none 0 0] 123));have hblt:w1.heap.size<(w1.alloc (.cells #[.pointer none,.slice none 0 0] 123)).heap.size:=by simp
  generalize w1.alloc _=W0 at Lt oc hblt⊢;clear ar;generalize w1.heap.size=b at hwb Lt hblt⊢;clear hblt
  go_loopw [15] (fun t15 wr=>∃(k:Nat) (l:List UInt8),k≤gs.length∧t15=.int .i64 k∧jN b l wr∧(l=[]→zy b [] wr)∧l++aI ((gs.drop k).map Gr.p)=aI (gs.map Gr.p)∧Up w wr) (fun t15 _=>gs.length-(intOf t15).toNat)
  case atStart=>exact⟨0,[],Nat.zero_le _,rfl,jN.of Lt.o,fun _=>Lt.o,rfl,oc.o⟩
  case round=>
   obtain⟨k,l,hk,rfl,hK,PM,htx,hW⟩:=hrel;have HX:=Um htx;have HW:=Um hW;have HK:=Um hK;have Lt:=Um PM;have hll:l.length≤200000000:=by
    have:=congrArg List.length htx;rw[List.length_append] at this;omega
   have hbw:=hK.lt;by_cases hlt:k<gs.length
   ·have km:=HG.o.below hW (aa _);obtain⟨gb,off,rfl⟩:=km.addr (by omega);obtain⟨c0,c1,cl⟩:=km.cells k hlt;have hA:=km.at' gs[k] (List.getElem_mem _);have Ko:=HG.o.at' gs[k] (List.getElem_mem _);have vo:=Um (HO.o gs[k] (List.getElem_mem _));have Lp:=Um (jZ.o gs[k].p (List.mem_map_of_mem (List.getElem_mem _)));have HS:=Um (vQ gs k hlt);generalize gs[k]=g at c0 c1 hA Ko vo HS Lp;have hn:g.notes.length≤9223372036854775807:=ae hA.2.1 hA.2.2.1;have HA:=Um Ko;have Bh:=au.new wr #[.slice g.a g.notes.length g.c,.int .u8 g.fin.toNat] 45;have lZ:=Um (show(l++(ByteArray.mk #[103,10]).data.toList)++(g.notes.flatMap dU++(iG g.fin++aI ((gs.drop (k+1)).map Gr.p)))=aI (gs.map Gr.p) by rw[←HX.o,HS.o];simp);have Qq:=Um (hK.below (al (Below.refl _ _) (.cells #[.slice g.a g.notes.length g.c,.int .u8 g.fin.toNat] 45)));have kB:=Um (al hW (.cells #[.slice g.a g.notes.length g.c,.int .u8 g.fin.toNat] 45));have DC:wr.heap.size≠b:=by omega
    have HBg:=Um Bh;clear km hA Ko hW htx hK PM Bh;go_wp2_with (go_at_call 50;refine(jf _ _ _ _ Qq.o (by omega) (by decide)).mono ?_;rintro e w2 ⟨rfl,ig,aD,ho2⟩;have QC:=Um (HBg.o.Oh ho2 DC (by decide));have L2:=Um ig;have jc:=Um (kB.o.trans (aD.mono hwb));have Ti:=QC.o;obtain⟨q0,qf,ql⟩:=Ti.facts;clear ig aD ho2 HBg Qq kB Ti;generalize wr.heap.size=Bg at DC QC q0 qf ql⊢);clear q0 qf ql
    go_loopw [23] (fun t23 w3=>∃(j:Nat) (l:List UInt8),j≤g.notes.length∧t23=.int .i64 j∧jN b l w3∧l≠[]∧l++((g.notes.drop j).flatMap dU++(iG g.fin++aI ((gs.drop (k+1)).map Gr.p)))=aI (gs.map Gr.p)∧au w3 Bg #[.slice g.a g.notes.length g.c,.int .u8 g.fin.toNat] 45∧Up w w3) (fun t23 _=>g.notes.length-(intOf t23).toNat)
    case atStart=>exact⟨0,_,Nat.zero_le _,rfl,L2.o,by simp,lZ.o,QC.o,jc.o⟩
    case round=>
     obtain⟨j,l,hj,rfl,hK,dL,htx,Bh,hW⟩:=hrel;have HX:=Um htx;have Ro:=Um dL;have HW:=Um hW;have HK:=Um hK;have HBg:=Um Bh;have hll:l.length≤200000000:=by
      have:=congrArg List.length htx;rw[List.length_append] at this;omega
     have hbw:=hK.lt;have hBgl:=Bh.lt;have jk:=HA.o.below hW (aa _);by_cases hjl:j<g.notes.length
     ·obtain⟨nb,no,hna⟩:=jk.addr (by omega);obtain⟨d0,d1,d2,d3,d4,dl⟩:=jk.cells hna j hjl;have gM:=Um (vo.out g.notes[j] (List.getElem_mem _));have gr:=Um (ub g.notes j hjl);have ON:=Um (AR (List.all_eq_true.1 Lp.o.1 g.notes[j] (List.getElem_mem _)));generalize g.notes[j]=x at d0 d1 d2 d3 d4 gM gr ON;clear jk hW htx hK Bh dL;rw[hna];have HNA:=Um hna;clear hna;have PT:=au.new wr #[.int .u8 x.kind.toNat,.int .i64 x.no,.string x.src,.string x.dst,.string x.tmp] 63;have Qq:=Um (HK.o.below (al (Below.refl _ _) (.cells #[.int .u8 x.kind.toNat,.int .i64 x.no,.string x.src,.string x.dst,.string x.tmp] 63)));have kB:=Um (al HW.o (.cells #[.int .u8 x.kind.toNat,.int .i64 x.no,.string x.src,.string x.dst,.string x.tmp] 63));have Ua:=Um (HBg.o.eE (.cells #[.int .u8 x.kind.toNat,.int .i64 x.no,.string x.src,.string x.dst,.string x.tmp] 63));have Kn:wr.heap.size≠b:=by omega
      have lS:b≤(wr.alloc (.cells #[.int .u8 x.kind.toNat,.int .i64 x.no,.string x.src,.string x.dst,.string x.tmp] 63)).heap.size:=by simp;omega
      go_wp2_with fail;generalize wr.alloc _=W at PT Qq kB Ua lS⊢;generalize wr.heap.size=Bx at PT Kn⊢;obtain⟨b0,-,bz⟩:=PT.facts;have Ls:=Um (show jN b l W.drew from Qq.o);have cD:=Um (fun W=>NJ x.no W gM.o.n0 gM.o.n1);have hDs:=vN (p8 x.no gM.o.n0 gM.o.n1).1;have L8:=Um (fun c:UInt8=>(show(ByteArray.mk #[c]++ByteArray.mk #[32]++str (cG x.no)).data.toList=c::32::cG x.no from by show(str [c]++str [32]++str (cG x.no)).data.toList=_;rw[aY,aY,aH];rfl));have hz:=Um (fun c:UInt8=>(show(ByteArray.mk #[c]++ByteArray.mk #[32]++str (cG x.no)).size≤1000000000 from by show(str [c]++str [32]++str (cG x.no)).size≤_;rw[aY,aY,aP];have:=(p8 x.no gM.o.n0 gM.o.n1).1;simp;omega));generalize str (cG x.no)=D at cD hDs L8 hz;rcases Dh ON.o with⟨hkd,hki⟩|⟨hkd,hki⟩|⟨hkd,hki⟩
      all_goals
       have HKd2:=Um hkd;clear hkd;have M9:Utf8.encode (IntKind.i32.wrap 109)=ByteArray.mk #[109]:=by first|kernel_rfl|rfl|decide
       have hu2:Utf8.encode (IntKind.i32.wrap 99)=ByteArray.mk #[99]:=by first|kernel_rfl|rfl|decide
       have hu3:Utf8.encode (IntKind.i32.wrap 120)=ByteArray.mk #[120]:=by first|kernel_rfl|rfl|decide
       have LJ:¬9223372036854775807<2+D.size:=by omega
       have qM:¬9223372036854775807<1+1+D.size:=by omega
       go_region_held3 (fun w'=>w'.cell? ⟨Bx,0,none⟩=some (.int .u8 x.kind.toNat)∧w'.cell? ⟨Bx,1,none⟩=some (.int .i64 x.no)∧Ci b W w'∧Below b W w')
        (first|exact Ed PT Kn (by decide) (Lib.OthersKept.refl _ _ _).drew (Below.refl _ _).drew|exact O1 PT Kn (by decide) lS (by assumption) b9|exact Ec PT Kn (by decide) (by assumption) ho5 b9)
        (first|(go_at_call 51;refine(cD.out _).mono ?_;rintro e w' ⟨rfl,b9⟩;have L2:=Um (Ls.o.below b9))|(go_at_call 50;refine(jf _ _ _ _ L2.o (by omega) (hz.out _)).mono ?_;rintro e w' ⟨rfl,hk5,b9,ho5⟩))
       obtain⟨-,-,Ik,Il⟩:=‹_∧_∧Ci b W _∧Below b W _›;have HK3:=Um (show jN b (l++(x.kind::32::cG x.no)) _ from by rw[HKd2.o,←L8.o];exact hk5);have HBg3:=Um (Ua.o.Oh Ik DC (by decide));have EY:=Um (kB.o.trans (Il.mono hwb));obtain⟨r0,rf,rl⟩:=(PT.Oh Ik Kn (by decide)).facts;have qp:=Um (show(l++(x.kind::32::cG x.no))++(nX x 0++((g.notes.drop (j+1)).flatMap dU++(iG g.fin++aI ((gs.drop (k+1)).map Gr.p))))=aI (gs.map Gr.p) by rw[←HX.o,gr.o];unfold nX;simp[dU]);clear Ik Il hk5 b9 ho5 M9 hu2 hu3 LJ qM;go_wp2_with fail
       go_loopw [44] (fun t44 w5=>∃(i:Nat) (l4:List UInt8),i≤3∧t44=.int .i64 i∧jN b l4 w5∧l4≠[]∧l4++(nX x i++((g.notes.drop (j+1)).flatMap dU++(iG g.fin++aI ((gs.drop (k+1)).map Gr.p))))=aI (gs.map Gr.p)∧au w5 Bg #[.slice g.a g.notes.length g.c,.int .u8 g.fin.toNat] 45∧Up w w5) (fun t44 _=>3-(intOf t44).toNat)
       case atStart=>exact⟨0,_,by omega,rfl,HK3.o,by simp,qp.o,HBg3.o,EY.o⟩
       case' round=>obtain⟨i,l4,hi,rfl,hK,dL,htx,Bh,hW⟩:=hrel
       case' round=>have Qp:=Um hK
       case' round=>have OM:=Um dL
       case' round=>have Ea:=Um Bh
       case' round=>have Io:=Um hW
       case' round=>have hl4:l4.length≤200000000:=(by have:=congrArg List.length htx;rw[List.length_append] at this;omega)
       case' round=>have hi0:=I0 x.src x.dst x.tmp
       case' round=>have Nh:=IZ x.src x.dst x.tmp
       case' round=>have Dt:=IY x.src x.dst x.tmp
       case' round=>rcases(show i=0∨i=1∨i=2∨i=3 by omega) with rfl|rfl|rfl|rfl
       ·have Cj:=Um htx;have hs:=gM.o.src;have hc:=Um (fun w=>oQ x.src w hs);by_cases h0:x.src.size=0
        ·have D1:=Um (show bx x.src=[] by unfold bx;rw[if_pos h0]);have hn:x.src.toList=[]:=by rw[aC];exact List.eq_nil_of_length_eq_zero (by rw[Array.length_toList];exact h0)
         clear h0 htx hK Bh hW dL;go_wp2_with fail;go_roundw
         case measure=>simp[intOf]
         case rel=>exact⟨1,l4,by omega,by go_num,Qp.o,OM.o,by have:=Cj.o;unfold nX at this⊢;rw[D1.o] at this;exact this,Ea.o,Io.o⟩
        ·have D1:=Um (show bx x.src=32::dC x.src.data.toList by unfold bx;rw[if_neg h0]);have hn:¬x.src.toList=[]:=by
          rw[aC];intro e;have:x.src.data.toList.length=x.src.size:=Array.length_toList;rw[e] at this;simp at this;omega
         have jj:x.src.toList.isEmpty=false:=by simpa using hn
         have hl:=gW x.src.data.toList;rw[show x.src.data.toList.length=x.src.size from Array.length_toList] at hl;have zk:(str (dC x.src.data.toList)).size≤6000000:=by rw[aP];omega
         have OF:=Um (show(ByteArray.mk #[32]++str (dC x.src.data.toList)).data.toList=bx x.src by rw[D1.o];show(str [32]++str _).data.toList=_;rw[aY,aH];rfl);have fT:=Um (show(ByteArray.mk #[32]++str (dC x.src.data.toList)).size≤1000000000 by rw[ByteArray.size_append];show 1+_≤_;omega);have J0:¬9223372036854775807<1+(str (dC x.src.data.toList)).size:=by omega
         generalize str (dC x.src.data.toList)=E at hc zk OF fT J0;clear h0 hl htx hK Bh hW dL;go_wp2_with (first|(go_at_call 52;refine(hc.out _).mono ?_;rintro e w' ⟨rfl,b9⟩;have TX:=Um (Qp.o.below b9);have LC:=Um (Ea.o.ak b9);have TF:=Um (ao Io.o b9);clear b9)|(go_at_call 50;refine(jf _ _ _ _ TX.o (by omega) fT.out).mono ?_;rintro e w' ⟨rfl,vl,eV,A6⟩));have Ia:=Um vl;have B':=Um (LC.o.Oh A6 DC (by decide));have Hr:=Um (TF.o.trans (eV.mono hwb));clear vl A6 eV;go_roundw
         case measure=>simp[intOf]
         case rel=>exact⟨1,_,by omega,by go_num,Ia.o,by simp[OM.o],by have:=Cj.o;unfold nX at this⊢;rw[OF.o];simpa using this,B'.o,Hr.o⟩
       ·have Cj:=Um htx;have hs:=gM.o.dst;have hc:=Um (fun w=>oQ x.dst w hs);by_cases h0:x.dst.size=0
        ·have D1:=Um (show bx x.dst=[] by unfold bx;rw[if_pos h0]);have hn:x.dst.toList=[]:=by rw[aC];exact List.eq_nil_of_length_eq_zero (by rw[Array.length_toList];exact h0)
         clear h0 htx hK Bh hW dL;go_wp2_with fail;go_roundw
         case measure=>simp[intOf]
         case rel=>exact⟨2,l4,by omega,by go_num,Qp.o,OM.o,by have:=Cj.o;unfold nX at this⊢;rw[D1.o] at this;exact this,Ea.o,Io.o⟩
        ·have D1:=Um (show bx x.dst=32::dC x.dst.data.toList by unfold bx;rw[if_neg h0]);have hn:¬x.dst.toList=[]:=by
          rw[aC];intro e;have:x.dst.data.toList.length=x.dst.size:=Array.length_toList;rw[e] at this;simp at this;omega
         have jj:x.dst.toList.isEmpty=false:=by simpa using hn
         have hl:=gW x.dst.data.toList;rw[show x.dst.data.toList.length=x.dst.size from Array.length_toList] at hl;have zk:(str (dC x.dst.data.toList)).size≤6000000:=by rw[aP];omega
         have OF:=Um (show(ByteArray.mk #[32]++str (dC x.dst.data.toList)).data.toList=bx x.dst by rw[D1.o];show(str [32]++str _).data.toList=_;rw[aY,aH];rfl);have fT:=Um (show(ByteArray.mk #[32]++str (dC x.dst.data.toList)).size≤1000000000 by rw[ByteArray.size_append];show 1+_≤_;omega);have J0:¬9223372036854775807<1+(str (dC x.dst.data.toList)).size:=by omega
         generalize str (dC x.dst.data.toList)=E at hc zk OF fT J0;clear h0 hl htx hK Bh hW dL;go_wp2_with (first|(go_at_call 52;refine(hc.out _).mono ?_;rintro e w' ⟨rfl,b9⟩;have TX:=Um (Qp.o.below b9);have LC:=Um (Ea.o.ak b9);have TF:=Um (ao Io.o b9);clear b9)|(go_at_call 50;refine(jf _ _ _ _ TX.o (by omega) fT.out).mono ?_;rintro e w' ⟨rfl,vl,eV,A6⟩));have Ia:=Um vl;have B':=Um (LC.o.Oh A6 DC (by decide));have Hr:=Um (TF.o.trans (eV.mono hwb));clear vl A6 eV;go_roundw
         case measure=>simp[intOf]
         case rel=>exact⟨2,_,by omega,by go_num,Ia.o,by simp[OM.o],by have:=Cj.o;unfold nX at this⊢;rw[OF.o];simpa using this,B'.o,Hr.o⟩
       ·have Cj:=Um htx;have hs:=gM.o.tmp;have hc:=Um (fun w=>oQ x.tmp w hs);by_cases h0:x.tmp.size=0
        ·have D1:=Um (show bx x.tmp=[] by unfold bx;rw[if_pos h0]);have hn:x.tmp.toList=[]:=by rw[aC];exact List.eq_nil_of_length_eq_zero (by rw[Array.length_toList];exact h0)
         clear h0 htx hK Bh hW dL;go_wp2_with fail;go_roundw
         case measure=>simp[intOf]
         case rel=>exact⟨3,l4,by omega,by go_num,Qp.o,OM.o,by have:=Cj.o;unfold nX at this⊢;rw[D1.o] at this;exact this,Ea.o,Io.o⟩
        ·have D1:=Um (show bx x.tmp=32::dC x.tmp.data.toList by unfold bx;rw[if_neg h0]);have hn:¬x.tmp.toList=[]:=by
          rw[aC];intro e;have:x.tmp.data.toList.length=x.tmp.size:=Array.length_toList;rw[e] at this;simp at this;omega
         have jj:x.tmp.toList.isEmpty=false:=by simpa using hn
         have hl:=gW x.tmp.data.toList;rw[show x.tmp.data.toList.length=x.tmp.size from Array.length_toList] at hl;have zk:(str (dC x.tmp.data.toList)).size≤6000000:=by rw[aP];omega
         have OF:=Um (show(ByteArray.mk #[32]++str (dC x.tmp.data.toList)).data.toList=bx x.tmp by rw[D1.o];show(str [32]++str _).data.toList=_;rw[aY,aH];rfl);have fT:=Um (show(ByteArray.mk #[32]++str (dC x.tmp.data.toList)).size≤1000000000 by rw[ByteArray.size_append];show 1+_≤_;omega);have J0:¬9223372036854775807<1+(str (dC x.tmp.data.toList)).size:=by omega
         generalize str (dC x.tmp.data.toList)=E at hc zk OF fT J0;clear h0 hl htx hK Bh hW dL;go_wp2_with (first|(go_at_call 52;refine(hc.out _).mono ?_;rintro e w' ⟨rfl,b9⟩;have TX:=Um (Qp.o.below b9);have LC:=Um (Ea.o.ak b9);have TF:=Um (ao Io.o b9);clear b9)|(go_at_call 50;refine(jf _ _ _ _ TX.o (by omega) fT.out).mono ?_;rintro e w' ⟨rfl,vl,eV,A6⟩));have Ia:=Um vl;have B':=Um (LC.o.Oh A6 DC (by decide));have Hr:=Um (TF.o.trans (eV.mono hwb));clear vl A6 eV;go_roundw
         case measure=>simp[intOf]
         case rel=>exact⟨3,_,by omega,by go_num,Ia.o,by simp[OM.o],by have:=Cj.o;unfold nX at this⊢;rw[OF.o];simpa using this,B'.o,Hr.o⟩
       ·have Cj:=Um htx;clear htx hK Bh hW dL;go_wp2_with (go_at_call 53;refine(RC _ _ _ Qp.o (by omega)).mono ?_;rintro e w' ⟨rfl,vl,eV,A6⟩);have Ia:=Um vl;have B':=Um (Ea.o.Oh A6 DC (by decide));have Hr:=Um (Io.o.trans (eV.mono hwb));clear vl A6 eV;go_roundw
        case measure=>simp[intOf];omega
        case rel=>exact⟨j+1,_,by omega,by go_num,Ia.o,by simp,by rw[←Cj.o];unfold nX;simp,by first|exact B'.o|(rw[←HNA.o];exact B'.o),Hr.o⟩
     ·obtain rfl:j=g.notes.length:=by omega
      obtain⟨q0,qf,ql⟩:=Bh.facts;have qp:=Um (show l++(iG g.fin++aI ((gs.drop (k+1)).map Gr.p))=aI (gs.map Gr.p) by have:=HX.o;simpa using this);have ve:=Um (show g.fin.toNat=101∨g.fin.toNat=0∨g.fin.toNat=100∨g.fin.toNat=117 from Lp.o.2.2);clear jk hW htx hK Bh dL;have M9:Utf8.encode (IntKind.i32.wrap 101)=ByteArray.mk #[101]:=by first|kernel_rfl|rfl|decide
      have hu2:Utf8.encode (IntKind.i32.wrap 100)=ByteArray.mk #[100]:=by first|kernel_rfl|rfl|decide
      have hu3:Utf8.encode (IntKind.i32.wrap 117)=ByteArray.mk #[117]:=by first|kernel_rfl|rfl|decide
      rcases ve.o with hf|hf|hf|hf
      case' inr.inl=>
       have hki:(g.fin.toNat:Int)=0:=by omega
       have HE:=Um (show iG g.fin=[] by unfold iG;rw[if_pos hf]);clear hf;go_wp2_with fail;go_roundw
       case measure=>simp[intOf];omega
       case rel=>exact⟨k+1,l,by omega,by go_num,HK.o,fun e=>absurd e Ro.o,by have:=qp.o;rw[HE.o] at this;exact this,HW.o⟩
      case' inl=>
       have hki:(g.fin.toNat:Int)=101:=by omega
       have HE:=Um (show iG g.fin=[101,10] by unfold iG;rw[if_neg (by omega),show g.fin=101 from UInt8.toNat_inj.1 hf]);clear hf;go_wp2_with (go_at_call 50;refine(jf _ _ _ _ HK.o (by omega) (by first|decide|(rw[ByteArray.size_append];decide))).mono ?_;rintro e w' ⟨rfl,vl,eV,A6⟩);have Ia:=Um vl;have Hr:=Um (HW.o.trans (eV.mono hwb));clear vl A6 eV;go_roundw
       case measure=>simp[intOf];omega
       case rel=>exact⟨k+1,_,by omega,by go_num,Ia.o,fun e=>absurd (List.append_eq_nil_iff.1 e).1 Ro.o,by have:=qp.o;rw[HE.o] at this;rw[←this];simp;try rfl,Hr.o⟩
      case' inr.inr.inl=>
       have hki:(g.fin.toNat:Int)=100:=by omega
       have HE:=Um (show iG g.fin=[100,10] by unfold iG;rw[if_neg (by omega),show g.fin=100 from UInt8.toNat_inj.1 hf]);clear hf;go_wp2_with (go_at_call 50;refine(jf _ _ _ _ HK.o (by omega) (by first|decide|(rw[ByteArray.size_append];decide))).mono ?_;rintro e w' ⟨rfl,vl,eV,A6⟩);have Ia:=Um vl;have Hr:=Um (HW.o.trans (eV.mono hwb));clear vl A6 eV;go_roundw
       case measure=>simp[intOf];omega
       case rel=>exact⟨k+1,_,by omega,by go_num,Ia.o,fun e=>absurd (List.append_eq_nil_iff.1 e).1 Ro.o,by have:=qp.o;rw[HE.o] at this;rw[←this];simp;try rfl,Hr.o⟩
      case' inr.inr.inr=>
       have hki:(g.fin.toNat:Int)=117:=by omega
       have HE:=Um (show iG g.fin=[117,10] by unfold iG;rw[if_neg (by omega),show g.fin=117 from UInt8.toNat_inj.1 hf]);clear hf;go_wp2_with (go_at_call 50;refine(jf _ _ _ _ HK.o (by omega) (by first|decide|(rw[ByteArray.size_append];decide))).mono ?_;rintro e w' ⟨rfl,vl,eV,A6⟩);have Ia:=Um vl;have Hr:=Um (HW.o.trans (eV.mono hwb));clear vl A6 eV;go_roundw
       case measure=>simp[intOf];omega
       case rel=>exact⟨k+1,_,by omega,by go_num,Ia.o,fun e=>absurd (List.append_eq_nil_iff.1 e).1 Ro.o,by have:=qp.o;rw[HE.o] at this;rw[←this];simp;try rfl,Hr.o⟩
   ·obtain rfl:k=gs.length:=by omega
    have lZ:=Um (show l=aI (gs.map Gr.p) by have:=HX.o;rw[zO,List.append_nil] at this;exact this);clear hK PM htx;by_cases dL:l=[]
    ·subst dL;have HKE:=Um (Lt.o rfl);go_wp2_with (go_at_call 54;refine(K6 _ _ _ HKE.o).mono ?_;rintro e w2 ⟨rfl,aD⟩);go_ret;exact⟨by rw[HV.o,←lZ.o];rfl,HW.o.trans (aD.mono hwb)⟩
    ·have Ro:=Um dL;clear dL;go_wp2_with (go_at_call 54;refine(ET _ _ _ HK.o Ro.o).mono ?_;rintro e w2 ⟨rfl,aD⟩);go_ret;exact⟨by rw[HV.o,←lZ.o];rfl,HW.o.trans (aD.mono hwb)⟩
end
end Go.Proofs.YtinflmadpnigfaaGreatDoor
