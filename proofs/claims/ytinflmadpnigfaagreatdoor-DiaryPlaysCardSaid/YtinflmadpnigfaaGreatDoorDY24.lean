import Derived.Test.YtinflmadpnigfaaGreatDoorDY23
import Derived.Test.YtinflmadpnigfaaGreatDoorDY3
import Derived.Test.YtinflmadpnigfaaGreatDoorDY11
import Derived.Test.YtinflmadpnigfaaGreatDoorDY12
import Derived.Test.YtinflmadpnigfaaGreatDoorDY22
import Derived.Test.YtinflmadpnigfaaGreatDoorDY4
import Derived.Test.YtinflmadpnigfaaGreatDoorDY15
import Derived.Test.YtinflmadpnigfaaGreatDoorDY9
set_option linter.unusedVariables false
set_option linter.unusedSimpArgs false
set_option maxRecDepth 100000
set_option maxHeartbeats 16000000
namespace Go.Proofs.YtinflmadpnigfaaGreatDoor
section
open Go.RowKit
section
variable{w w':World}{pf:Nat}{R R':Rf}{S:Fs}
theorem OI.rf{base:Nat}{v:Value}{l:List Int}(ho:OI w base v l)(h:aE w pf R S){F':Nat→Prop}(hs:aL (R.F pf) F' w w'):OI w' base v l:=
 bq ho hs.mod (fun k hk he=>by
  obtain⟨-,cur,hc⟩:=aT ho he;obtain⟨o,h1,hd⟩:=h.kind hk;rw[hc] at h1;injection h1 with h1;subst h1;rw[show kQ (.cells cur 3 (0,0))=false from rfl] at hd
  cases hd)
theorem aE.oi(h:aE w pf R S){base:Nat}{v:Value}{l:List Int}(ho:OI w base v l)(hm:Mod (fun j=>v.ownBlock=some j) w w'):aE w' pf R S:=
 h.mod hm (fun k o hk ig=>by
  obtain⟨-,cur,hc⟩:=aT ho hk;rw[hc] at ig;injection ig with ig;subst ig;exact⟨rfl,fun cur e=>by cases e⟩)
structure mU(w wr:World)(pf:Nat)(S:Fs):Prop where
 st:∃R,aE wr pf R S∧Rf.ct Mz R∧∀k,R.F pf k→w.heap.size≤k
 below:Up w wr
theorem mU.ak{wr:World}(h:mU w wr pf S)(hb:Up wr w'):mU w w' pf S:=by
 obtain⟨⟨R,h1,h2,h3⟩,h6⟩:=h;exact⟨⟨R,h1.ak hb,h2,h3⟩,ao h6 hb⟩
theorem mU.of{wr:World}(hb:Up w wr)(hl:Rf.ct Mz R)(hF:∀k,R.F pf k→w.heap.size≤k)(hR:aE w' pf R' S)(hS:aL (R.F pf) (R'.F pf) wr w')(hL:Rf.ct R R'):mU w w' pf S:=
 ⟨⟨R',hR,hl.trans hL,hS.aQ hF hb.size⟩,hb.trans (hS.below hF hb.size)⟩
theorem mU.oi{wr:World}(h:mU w wr pf S){v:Value}{l:List Int}(ho:OI wr w.heap.size v l)(hm:Mod (fun j=>v.ownBlock=some j) wr w'):mU w w' pf S:=by
 obtain⟨⟨R,h1,h2,h3⟩,h6⟩:=h;exact⟨⟨R,h1.oi ho hm,h2,h3⟩,h6.trans (hm.below (fun k hk=>(aT ho hk).1) h6.size)⟩
theorem Ax{N:Nat}(h:av S N)(hp:Pl S):S.ns.length≤N:=by
 have h1:=hp.len;have h2:=h.lN;omega
theorem JW(S:Fs)(it:It):ek S it=if(cm S it).2≠0 then((((cm S it).1.cU bQ 0 (cm S it).2 it.uid it.gid).1.cL bQ 0 (cm S it).2 it.mode).1,(cm S it).2) else cm S it:=rfl
end
theorem vx(w:World){ma:Option Addr}{mn mc:Nat}{ia:Option Addr}{il ic:Nat}{ms:List Mt}{is:List It}(h:oW w ma mn mc ia il ic ms is)(hml:ms.length≤10000)(hil:is.length≤10000)
  (hmp:∀m∈ms,m.path.size≤100000) (hip:∀x∈is,x.path.size≤100000∧x.data.size≤100000) :
  Calls Tryz.prog 57 #[.agg #[.slice ma mn mc,.slice ia il ic]] w fun e w'=>∃pf R,e=.returned (.pointer (some ⟨pf,0,none⟩))∧aE w' pf R (dS ms is)∧(∀k,R.F pf k→w.heap.size≤k)∧Rf.ct Mz R∧Up w w':=by
 have HS:=Um h;have HL:=Um (vy (w.alloc (.cells #[.slice ma mn mc,.slice ia il ic] 25)) (h.ak ((Below.refl _ w).alloc (aa _) _)));have HN:=Um (fun w=>I6 (aS ms).1 (aS ms).2 (qJ ms) w);have HMp:=Um hmp;have HIp:=Um hip;have hln:=h.m.1;have hli:=h.i.1;subst hln hli;obtain⟨pR,bO⟩:=Uo w #[.slice ma ms.length mc,.slice ia is.length ic] 25;have ky:=Um (show dS ms is=bS (aX (aO (sK.aF 0 (aS ms).1 (aS ms).2) ms) is).1 (is.zip (aX (aO (sK.aF 0 (aS ms).1 (aS ms).2) ms) is).2) from rfl);have kD:=Um (ag (av.new (aS ms).1 (aS ms).2) (Pl.new (aS ms).1 (aS ms).2));generalize sK.aF 0 (aS ms).1 (aS ms).2=S0 at HN ky kD;generalize (aS ms).1=lb at HL HN;generalize (aS ms).2=ln at HL HN;clear h hmp hip;go_enter Tryz.func57,Tryz.ntmps57;go_wp2_with fail;refine HL.o.mono ?_;rintro e w1 ⟨rfl,ar⟩;have gm:=pR.ak ar;have Dx:=ao bO ar;clear pR bO ar;go_wp2_with fail;refine(HN.o _).mono ?_;rintro e w2 ⟨pf,R0,rfl,hR0,Te,hL0,aD⟩;have eM:=gm.ak aD;have PG:mU w w2 pf S0:=⟨⟨R0,hR0,hL0,fun k hk=>ae Dx.size (Te k hk)⟩,ao Dx aD⟩;have OJ:=Um PG;have cV:=Um eM;obtain⟨bc,bf,bz⟩:=eM.facts;clear gm Dx hR0 hL0 aD Te eM PG;go_wp2_with fail
 go_loopw [6] (fun t6 wr=>∃k:Nat,k≤ms.length∧t6=.int .i64 k∧mU w wr pf (aO S0 (ms.take k))∧au wr w.heap.size #[.slice ma ms.length mc,.slice ia is.length ic] 25) (fun t6 _=>ms.length-(intOf t6).toNat)
 case atStart=>exact⟨0,Nat.zero_le _,rfl,OJ.o,cV.o⟩
 case round=>
  obtain⟨k,hk,rfl,hP,hB⟩:=hrel;have HP:=Um hP;have HB:=Um hB;clear bc bf bz;obtain⟨bc,bf,bz⟩:=hB.facts;have hbw:=hP.below;clear hP hB;by_cases hlt:k<ms.length
  ·obtain⟨b,off,rfl,hbl⟩:=eo HS.o.m (by omega);obtain⟨c0,c1,c2⟩:=mu (HS.o.m.below hbw (aa _)) k hlt;have HQ:=Um (show aO S0 (ms.take (k+1))=if ms[k].path=jy then aO S0 (ms.take k) else bT (aO S0 (ms.take k)) ms[k] by rw[List.take_succ_eq_append_getElem hlt,pK]);have jU:=Um (HMp.o ms[k] (List.getElem_mem hlt));have jL:=Um (show av (aO S0 (ms.take k)) (1+2*k)∧Pl (aO S0 (ms.take k)) by
    have:=fF kD.o.1 (ms.take k);rw[List.length_take,Nat.min_eq_left hk] at this;exact⟨this,kD.o.2.aO kD.o.1 _⟩)
   generalize ms[k]=m at c0 c1 c2 HQ jU;generalize jR:aO S0 (ms.take (k+1))=S2 at HQ;have o4:=Um jR;clear jR;generalize SU:aO S0 (ms.take k)=Sk at HQ HP jL;have HSk:=Um SU;clear SU hbw;by_cases h1:m.path=jy
   ·have Q7:m.path.toList=[47]:=by rw[h1,aC];rfl
    have HE:=Um (HQ.o.trans (if_pos h1));clear h1;go_wp2_with fail;go_roundw
    case rel=>exact⟨k+1,by omega,by go_num,by rw[show aO S0 (ms.take (k+1))=Sk from by rw[o4.o];exact HE.o];exact HP.o,HB.o⟩
    case measure=>simp[intOf];omega
   ·have Q7:(m.path.toList==[47])=false:=by
     rw[aC];simp only[beq_eq_false_iff_ne,ne_eq];exact fun e=>h1 (p' e)
    have HE:=Um (HQ.o.trans (if_neg h1));obtain⟨⟨R,hR,hlk,hF⟩,hbw⟩:=HP.o;have HM:=Um (xV hR jL.o.1 (by omega) (by have:=Ax jL.o.1 jL.o.2;omega) hlk.now m jU.o);have HW:=Um (ag hR (ag hlk (ag hF hbw)));clear h1 hR hlk hF hbw;go_wp2_with fail;refine HM.o.mono ?_;rintro e w5 ⟨rfl,R5,gQ,eu,Bf⟩;obtain⟨hR,hlk,hF,hbw⟩:=HW.o;have hZ:=Um (HB.o.rf hR eu rfl);have HP5:=Um (mU.of hbw hlk hF gQ eu Bf);clear gQ eu Bf hR hlk hF hbw;go_wp2_with fail;go_roundw
    case rel=>exact⟨k+1,by omega,by go_num,by rw[show aO S0 (ms.take (k+1))=bT Sk m from by rw[o4.o];exact HE.o];exact HP5.o,hZ.o⟩
    case measure=>simp[intOf];omega
  ·obtain rfl:k=ms.length:=by omega
   rw[List.take_length] at HP;have za:=Um (ag (fF kD.o.1 ms) (kD.o.2.aO kD.o.1 ms));generalize aO S0 ms=S1 at HP za ky;have Is:=Um (show OI wr w.heap.size (.slice none 0 0) [] from World.ownsRow_nil _ _ _ _);clear hbw;go_wp2_with fail
   go_loopw [8,7] (fun t8 t7 wr=>∃(k:Nat) (a:Option Addr) (c:Nat),k≤is.length∧t8=.int .i64 k∧t7=.slice a k c∧OI wr w.heap.size (.slice a k c) (aX S1 (is.take k)).2∧mU w wr pf (aX S1 (is.take k)).1∧au wr w.heap.size #[.slice ma ms.length mc,.slice ia is.length ic] 25) (fun t8 _ _=>is.length-(intOf t8).toNat)
   case atStart=>exact⟨0,_,_,Nat.zero_le _,rfl,rfl,Is.o,HP.o,HB.o⟩
   case round=>
    obtain⟨k,a,c,hk,rfl,rfl,hO,hP,hB⟩:=hrel;have HO:=Um hO;have HP:=Um hP;have HB:=Um hB;clear bc bf bz;obtain⟨bc,bf,bz⟩:=hB.facts;have hbw:=hP.below;clear hP hB hO;by_cases hlt:k<is.length
    ·obtain⟨b,off,rfl,hbl⟩:=eo HS.o.i (by omega);obtain⟨c0,c1,c2,c3,c4,c5,c6⟩:=mA (HS.o.i.below hbw (aa _)) k hlt;have HQ:=Um (show aX S1 (is.take (k+1))=((ek (aX S1 (is.take k)).1 is[k]).1,(aX S1 (is.take k)).2++[(ek (aX S1 (is.take k)).1 is[k]).2]) by rw[List.take_succ_eq_append_getElem hlt,rT]);have jU:=Um (HIp.o is[k] (List.getElem_mem hlt));have jL:=Um (show av (aX S1 (is.take k)).1 (1+2*ms.length+k)∧Pl (aX S1 (is.take k)).1 by
      have:=jt za.o.1 (is.take k);rw[List.length_take,Nat.min_eq_left hk] at this;exact⟨this,za.o.2.aX za.o.1 _⟩)
     have B0:=Um (show(aX S1 (is.take k)).2.length=k by rw[k8,List.length_take,Nat.min_eq_left hk]);generalize is[k]=it at c0 c1 c2 c3 c4 c5 c6 HQ jU;generalize aX S1 (is.take k)=Sk at HQ HP jL HO B0;obtain⟨Sk,Lk⟩:=Sk;have hX:=au.new wr #[.string it.path,.int .i64 it.kind,.int .i64 it.mode,.int .i64 it.uid,.int .i64 it.gid,.int .i64 it.mtime,.string it.data] 113;have ax:=(Below.refl _ wr).alloc (aa _) (.cells #[.string it.path,.int .i64 it.kind,.int .i64 it.mode,.int .i64 it.uid,.int .i64 it.gid,.int .i64 it.mtime,.string it.data] 113);clear hbw;go_upto_region 13 with fail;generalize wr.alloc _=X at hX ax⊢;have aJ:=Um (HB.o.ak ax);have N4:=Um (HP.o.ak ax);have LZ:=Um (bY HO.o ax (aa _));have Rq:=Um hX;obtain⟨xc,xf,xz⟩:=hX.facts;obtain⟨⟨R,hR,hlk,hF⟩,hbw⟩:=N4.o;have HM:=Um (Ah hR jL.o.1 (by omega) (by have:=Ax jL.o.1 jL.o.2;omega) hlk.now it jU.o.1 jU.o.2);have HW:=Um (ag hR (ag hlk (ag hF hbw)));have l3:=Um (tT jL.o.1 it);have N7:=Um (JW Sk it);clear hX ax c0 c1 c2 c3 c4 c5 c6 hR hlk hF hbw;go_wp2_with fail;refine HM.o.mono ?_;clear HM;rintro e w5 ⟨rfl,R5,gQ,eu,Bf⟩;generalize cm Sk it=nd at gQ l3 N7⊢;obtain⟨S5,no⟩:=nd;dsimp only at gQ l3 N7⊢;obtain⟨hR,hlk,hF,hbw⟩:=HW.o;have LM:=mU.of hbw hlk hF gQ eu Bf;have Im:=aJ.o.rf hR eu rfl;have S9:=Rq.o.rf hR eu rfl;have EF:OI w5 w.heap.size (.slice a Lk.length c) Lk:=by rw[B0.o];exact OI.rf (l:=Lk) LZ.o hR eu
     obtain⟨g,cap,W,hrun,PH,Nb⟩:=EF.app no (by rw[B0.o];omega) LM.below.size;have SV:=LM.oi EF Nb;have lW:=Im.oi EF Nb (by decide);have PN:=S9.oi EF Nb (by decide);rw[B0.o] at hrun PH;have vH:=Um hrun;have TQ:=Um SV;have vK:=Um lW;have HIW:=Um PN;have Ri:=Um PH;clear xc xf xz LM gQ eu Bf hR hlk hF hbw Im S9 EF hrun PH Nb SV lW;obtain⟨xc,xf,xz⟩:=PN.facts;clear PN;by_cases hno:no=0
     ·have hnb:(no != 0)=false:=by simpa using hno
      have HE:=Um (N7.o.trans (if_neg (by simp[hno])));clear hno;go_wp2_with (at_builtin;refine aG rfl rfl rfl rfl vH.o ?_);go_roundw
      case rel=>
       refine⟨k+1,_,cap,by omega,by go_num,rfl,?_,?_,vK.o⟩
       ·rw[HQ.o,HE.o];exact Ri.o
       ·rw[HQ.o,HE.o];exact TQ.o
      case measure=>simp[intOf];omega
     ·have hnb:(no != 0)=true:=by simpa using hno
      have HE:=Um (N7.o.trans (if_pos hno));clear hno;obtain⟨⟨R,hR,hlk,hF⟩,hbw⟩:=TQ.o;have hnow:=hlk.now;have HM:=Um (CW hR l3.o no it.uid it.gid);rw[show R.now=0 from hnow] at HM;have HW:=Um (ag hR (ag hlk (ag hF hbw)));clear hR hlk hF hbw hnow;go_wp2_with (at_builtin;refine aG rfl rfl rfl rfl vH.o ?_);refine HM.o.mono ?_;clear HM;rintro e w6 ⟨rfl,R6,Bc,lV,S4⟩;obtain⟨hR,hlk,hF,hbw⟩:=HW.o;have Il:=vK.o.rf hR lV rfl;have PO:=HIW.o.rf hR lV rfl;have Ik:=OI.rf Ri.o hR lV;have SW:=mU.of hbw hlk hF Bc lV S4;have HP6:=Um SW;have sP:=Um Il;have HI6:=Um PO;have HO6:=Um Ik;clear xc xf xz SW Il Bc lV S4 hR hlk hF hbw Ik;obtain⟨xc,xf,xz⟩:=PO.facts;clear PO HW;obtain⟨⟨R,hR,hlk,hF⟩,hbw⟩:=HP6.o;have hnow:=hlk.now;have HM:=Um (FH hR (uN l3.o bQ 0 no it.uid it.gid) no it.mode);rw[show R.now=0 from hnow] at HM;have HW:=Um (ag hR (ag hlk (ag hF hbw)));clear hR hlk hF hbw hnow;go_wp2_with fail;refine HM.o.mono ?_;clear HM;rintro e w7 ⟨rfl,R7,Dy,qO,Km⟩;obtain⟨hR,hlk,hF,hbw⟩:=HW.o;have sC:=Um (sP.o.rf hR qO rfl);have N5:=Um (OI.rf HO6.o hR qO);have Qi:=Um (mU.of hbw hlk hF Dy qO Km);clear Dy qO Km hR hlk hF hbw;go_wp2_with fail;go_roundw
      case rel=>
       refine⟨k+1,_,cap,by omega,by go_num,rfl,?_,?_,sC.o⟩
       ·rw[HQ.o,HE.o];exact N5.o
       ·rw[HQ.o,HE.o];exact Qi.o
      case measure=>simp[intOf];omega
    ·obtain rfl:k=is.length:=by omega
     rw[List.take_length] at HP HO;have Ll:=Um (jt za.o.1 is);have rs:=Um (k8 S1 is);generalize aX S1 is=q at HP HO Ll ky rs;obtain⟨S2,made⟩:=q;dsimp only at ky;have Dp:made.length=is.length:=rs.o;clear hbw;go_wp2_with fail
     go_loopw [11] (fun t11 wr=>∃k:Nat,k≤is.length∧t11=.int .i64 k∧OI wr w.heap.size (.slice a is.length c) made∧mU w wr pf (bS S2 ((is.zip made).take k))∧au wr w.heap.size #[.slice ma ms.length mc,.slice ia is.length ic] 25) (fun t11 _=>is.length-(intOf t11).toNat)
     case atStart=>exact⟨0,Nat.zero_le _,rfl,HO.o,HP.o,HB.o⟩
     case round=>
      obtain⟨k,hk,rfl,hO,hP,hB⟩:=hrel;have D7:=Um hO;have H9:=Um hP;have ez:=Um hB;clear bc bf bz;obtain⟨bc,bf,bz⟩:=hB.facts;have hbw:=hP.below;clear hP hO hB;by_cases hlt:k<is.length
      ·obtain⟨b,off,rfl,hbl⟩:=eo HS.o.i (by omega);obtain⟨c0,c1,c2,c3,c4,c5,c6⟩:=mA (HS.o.i.below hbw (aa _)) k hlt;have hkm:k<made.length:=by omega
       obtain⟨g,rfl⟩:∃g,a=some ⟨g,0,none⟩:=by
        obtain⟨a1,c1,e1,-,-,hf⟩:=bw D7.o;injection e1 with e1 e2 e3;rcases hf with⟨-,h0,-⟩|⟨g,hg,-,-⟩
        ·omega
        ·exact⟨g,e1.trans hg⟩
       have EG:OI wr w.heap.size (.slice (some ⟨g,0,none⟩) made.length c) made:=by rw[Dp];exact D7.o
       have hgl:=(cd EG).2.2;have hmc:wr.cell? ⟨g,k,none⟩=some (.int .i64 made[k]):=EG.cell k hkm;have HQ:=Um (show bS S2 ((is.zip made).take (k+1))=if made[k]≠0 then((bS S2 ((is.zip made).take k)).cQ bQ 0 made[k] is[k].mtime).1 else bS S2 ((is.zip made).take k) by
        rw[List.take_succ_eq_append_getElem (by rw[List.length_zip];omega),rD,List.getElem_zip])
       have jL:=Um (qw Ll.o ((is.zip made).take k));generalize is[k]=it at c0 c1 c2 c3 c4 c5 c6 HQ;generalize made[k]=no at hmc HQ;generalize bS S2 ((is.zip made).take k)=Sk at HQ H9 jL;clear hbw EG;have HMl:=Um Dp;clear Dp;by_cases hno:no=0
       ·have hnb:(no != 0)=false:=by simpa using hno
        have HE:=Um (HQ.o.trans (if_neg (by simp[hno])));clear hno;go_wp2_with fail;go_roundw
        case rel=>exact⟨k+1,by omega,by go_num,D7.o,by rw[HE.o];exact H9.o,ez.o⟩
        case measure=>simp[intOf];omega
       ·have hnb:(no != 0)=true:=by simpa using hno
        have HE:=Um (HQ.o.trans (if_pos hno));have mixed:Tryz.prog.follows .mixedOrders=true:=by kernel_rfl
        obtain⟨⟨R,hR,hlk,hF⟩,hbw⟩:=H9.o;have hnow:=hlk.now;have HM:=Um (FC (hR.ak (Below.refl _ wr).drew) jL.o no it.mtime);rw[show R.now=0 from hnow] at HM;have HW:=Um (ag hR (ag hlk (ag hF hbw)));clear hno hR hlk hF hbw hnow;go_wp2_with fail;refine ay 12 mixed (by kernel_rfl) (show bV _ from by repeat (first|exact cZ|refine cY ?_|refine cw ?_|refine cJ ?_)) ?_;simp only[List.take_succ_cons,List.take_zero,List.drop_succ_cons,List.drop_zero]
        repeat still_step
        refine wpStill_nil ?_;go_wp2_with fail;refine HM.o.mono ?_;clear HM;rintro e w7 ⟨rfl,R7,Dy,qO,Km⟩;obtain⟨hR,hlk,hF,hbw⟩:=HW.o;have vn:Up wr wr.drew:=(Below.refl _ wr).drew;have N5:=Um (OI.rf (bY D7.o vn (aa _)) (hR.ak vn) qO);have sC:=Um ((ez.o.ak vn).rf (hR.ak vn) qO rfl);have Qi:=Um (mU.of hbw.drew hlk hF Dy qO Km);clear Dy qO Km hR hlk hF hbw vn;go_wp2_with fail;go_roundw
        case rel=>exact⟨k+1,by omega,by go_num,N5.o,by rw[HE.o];exact Qi.o,sC.o⟩
        case measure=>simp[intOf];omega
      ·obtain rfl:k=is.length:=by omega
       rw[List.take_of_length_le (by rw[List.length_zip];omega),←ky.o] at H9;obtain⟨⟨R,hR,hlk,hF⟩,hbw⟩:=H9.o;have HX:=Um (show∃R,aE wr pf R (dS ms is)∧(∀k,R.F pf k→w.heap.size≤k)∧Rf.ct Mz R∧Up w wr from⟨R,hR,hF,hlk,hbw⟩);clear hR hlk hF hbw;go_wp2_with fail;go_ret;obtain⟨R,h1,h2,h3,h4⟩:=HX.o;exact⟨pf,R,rfl,h1,h2,h3,h4⟩
end
section
open Go.RowKit Go.Shelf
attribute [local go_sem] Oper.semAt_some
def Kx(ms:List Mt)(is:List It)(nm:ByteArray)(pl:List (Int×Int)):Bool:=decide (n9 ms is 30=true∧nm.size≤300∧pl.length≤4)
theorem Kw{ms:List Mt}{is:List It}{nm:ByteArray}{pl:List (Int×Int)}(h:Kx ms is nm pl=true):n9 ms is 30=true∧nm.size≤300∧pl.length≤4:=of_decide_eq_true h
section
variable{w w':World}{pf pw:Nat}{R:Rp}{pv:Value}{Y:Sy}
theorem CK(h:bK w pf pw R pv Y){a:Option Addr}{n c:Nat}{l:List (Int×Int)}(qk:bj (w.setCell ⟨pf,2,none⟩ (.int .i64 0)) 2 lX a n c l)(hn:l.length≤1000000) :
  Calls Tryz.prog 58 #[.pointer (some ⟨pf,0,none⟩),.slice a n c] w fun e w'=>e=.returned (.tuple #[])∧∃pv',bK w' pf pw R pv' {Y with count:=0,bD:=l}∧Mod (fun k=>k=pf) w w':=by
 have HN:=Um (ir h);have HY:=Um h;obtain⟨v,W,hrun,hown,lS⟩:=EK qk hn;obtain⟨a1,c1,rfl,-,-,-⟩:=bw hown;have gm:=h.bd.set 2 (.int .i64 0);have lW:=gm.ak lS;have HR:=Um hrun;have HX:=Um (ag hown (ag lS lW));obtain⟨pc,pf',pz⟩:=h.bd.facts;obtain⟨qc,qf,qz⟩:=lW.facts;clear h qk hrun hown lS gm lW;go_enter Tryz.func58,Tryz.ntmps58;go_wp2_with (first|(go_at_call 59;((with_reducible refine HN.o.mono ?_);rintro e w1 ⟨rfl,rfl⟩))|(at_builtin;refine aG rfl rfl rfl rfl HR.o ?_))
 go_end0
 obtain⟨hown,lS,lW⟩:=HX.o;have eR:=(Mod.refl (fun k=>k=pf) w).setCell (a:=⟨pf,2,none⟩) (.inl rfl) (.int .i64 0);have hm:=(eR.trans (Mod.aq lS)).setCell (a:=⟨pf,3,none⟩) (.inl rfl) (.slice a1 l.length c1);have hlt:pf<(w.setCell ⟨pf,2,none⟩ (.int .i64 0)).heap.size:=by simpa [World.setCell] using HY.o.bd.lt
 refine⟨rfl,.slice a1 l.length c1,⟨lW.set 3 _,HY.o.wd.mod hm (fun k o hk ho=>?_),?_⟩,hm⟩
 ·subst hk;have hb:=HY.o.bd;unfold au at hb;rw[hb] at ho;injection ho with ho;subst ho;exact⟨rfl,fun cur e=>by cases e⟩
 ·refine Em (bq hown ((Mod.refl (fun k=>k=pf) W).setCell (a:=⟨pf,3,none⟩) (.inl rfl) _) (fun k hk he=>?_)) (Nat.zero_le _);subst hk;have:=(aT hown he).1;omega
end
theorem aE.RP{w:World}{pf:Nat}{R:Rf}{S:Fs}(h:aE w pf R S)(v:Value):aE (w.setCell ⟨pf,5,none⟩ v) pf {R with pl:=v} S:=by
 have hm:Mod (fun k=>k=pf) w (w.setCell ⟨pf,5,none⟩ v):=(Mod.refl (fun k=>k=pf) w).setCell (a:=⟨pf,5,none⟩) (.inl rfl) _;have hM:Mod (R.F pf) w (w.setCell ⟨pf,5,none⟩ v):=hm.mono (fun k hk=>.inl hk);refine⟨h.bd.set 5 _,bq h.sj hm (fun k hk e=>?_),bq h.eI hm (fun k hk e=>?_),h.ns,fun x hx=>(h.aB x hx).rf h (aL.dH hM)⟩
 ·obtain⟨-,hc⟩:=aT h.sj e;exact cT hc h.bd (by decide) hk.symm
 ·obtain⟨-,hc⟩:=aT h.eI e;exact cT hc h.bd (by decide) hk.symm
structure Both(w0 w:World)(S:Fs)(pl:List (Int×Int))(vp:Value)(p1 q1:Nat)(R1:Rp)(v1:Value)(pf:Nat)(R2:Rf):Prop where
 y:bK w p1 q1 R1 v1 ⟨S,0,0,pl,false⟩
 r:aE w pf R2 S
 now:R2.now=0
 oS:R2.oS=.int .i64 0
 bD:R2.pl=vp
 dd:R2.dd=.bool false
 f1:∀k,R1.Y p1 q1 k→w0.heap.size≤k
 f2:∀k,R2.F pf k→w0.heap.size≤k
 below:Up w0 w
theorem DR(w:World){ma:Option Addr}{mn mc:Nat}{ia:Option Addr}{il ic:Nat}{ms:List Mt}{is:List It}(h:oW w ma mn mc ia il ic ms is)(u g at' to':Int)(nm:ByteArray){pa:Option Addr}{pn pc:Nat}{pl:List (Int×Int)}(hpl:bj w 2 lX pa pn pc pl)(ke:Bool)(hf:Kx ms is nm pl=true) :
  Calls Tryz.prog 24 #[.agg #[.slice ma mn mc,.slice ia il ic,.int .i64 u,.int .i64 g,.int .i64 at',.int .i64 to',.string nm,.slice pa pn pc,.bool ke]] w fun e w'=>∃p1 q1 R1 v1 pf R2,e=.returned (.tuple #[.pointer (some ⟨p1,0,none⟩),.pointer (some ⟨pf,0,none⟩)])∧Both w w' (dS ms is) pl (.slice pa pn pc) p1 q1 R1 v1 pf R2:=by
 obtain⟨iV,-,Om⟩:=Kw hf;obtain⟨Pr,Pv,hmp,hip⟩:=BA iV;have hil:is.length≤30:=by omega
 have hM:∀m∈ms,m.path.size≤100000:=fun m hm=>ae (hmp m hm) (by omega);have hI:∀x∈is,x.path.size≤100000∧x.data.size≤100000:=fun x hx=>by
  have:=hip x hx;omega
 obtain⟨hX,ax⟩:=Uo w #[.slice ma mn mc,.slice ia il ic,.int .i64 u,.int .i64 g,.int .i64 at',.int .i64 to',.string nm,.slice pa pn pc,.bool ke] 71;have HS:=Um h;have HQ:=Um hpl;have OM:=Um Om;obtain⟨S,hS⟩:∃S,dS ms is=S:=⟨_,rfl⟩;rw[hS];clear h hpl hf iV Om hmp hip;go_enter Tryz.func24,Tryz.ntmps24;go_upto_region 1 with fail;generalize w.alloc _=w1 at hX ax⊢;have je:=Um ax;have HX:=Um hX;obtain⟨bc,bf,bz⟩:=hX.facts;have Rh:=Um (fun wr (hb:Up w1 wr)=>F4 wr (HS.o.ak (je.o.trans (hb.mono je.o.size))) (by omega) (by omega) hM hI);have HP2:=Um (fun wr (hb:Up w1 wr)=>(vx wr (HS.o.ak (je.o.trans (hb.mono je.o.size))) (by omega) (by omega) hM hI).mono
  (fun e w' ⟨pf,R,h1,h2,h3,h4,h5⟩=>(⟨pf,R,h1,h2,fun k hk=>ae hb.size (h3 k hk),h4,h5⟩:∃pf R,e=Ending.returned (.pointer (some ⟨pf,0,none⟩))∧aE w' pf R (dS ms is)∧(∀k,R.F pf k→w1.heap.size≤k)∧Rf.ct Mz R∧Up wr w')))
 rw[hS] at Rh HP2;clear hX ax Pr hil hM hI Pv
 go_cut [4,5] (fun t4 t5 wx=>∃p1 q1 R1 v1 pf R2,t4=.pointer (some ⟨p1,0,none⟩)∧t5=.pointer (some ⟨pf,0,none⟩)∧bK wx p1 q1 R1 v1 ⟨S,0,0,[],false⟩∧(∀k,R1.Y p1 q1 k→w1.heap.size≤k)∧aE wx pf R2 S∧(∀k,R2.F pf k→w1.heap.size≤k)∧Rf.ct Mz R2∧Up w1 wx)
 case first=>
  go_region_held3 (fun w'=>(∀b o,b<w1.heap.size→w'.cell? ⟨b,o,none⟩=w1.cell? ⟨b,o,none⟩)∧Up w1 w') (first|with_reducible assumption|with_reducible exact ck _|with_reducible exact bI _|with_reducible exact bN (by assumption) (by assumption)|with_reducible exact bB (by assumption) _|with_reducible exact bu (by assumption) _|with_reducible exact bm (by assumption) (by assumption)|with_reducible exact cj (by assumption) (by assumption))
   ((first
    |(go_at_call 56;((with_reducible refine(Rh.o _ (And.right (by assumption))).mono ?_);rintro e w4 ⟨p1,q1,R1,v1,Y1,rfl,eK,rfl,gd,dI⟩;have iR:=Um (ag eK gd);clear eK gd))
    |(go_at_call 57;((with_reducible refine(HP2.o _ (And.right (by assumption))).mono ?_);rintro e w5 ⟨pf,R2,rfl,fo,iV,hlk,b9⟩;have EV:=Um (ag (iR.o.1.ak b9) (ag fo (ag iV hlk)));clear fo iV hlk))))
  all_goals
   have hbz:Up w1 w5:=And.right (by assumption);have jX:=Um hbz;go_wp2_with fail;go_meet;exact⟨p1,q1,R1,v1,pf,R2,rfl,rfl,EV.o.1,iR.o.2,EV.o.2.1,EV.o.2.2.1,EV.o.2.2.2,jX.o⟩
 case rest=>
  obtain⟨p1,q1,R1,v1,pf,R2,rfl,rfl,eK,gd,fo,iV,hlk,hbw⟩:=hcut;generalize wc=wb at eK fo hbw⊢;have sn:=je.o.trans (hbw.mono je.o.size);have hp1w:w1.heap.size≤p1:=gd p1 (.inl rfl);have hpfw:w1.heap.size≤pf:=iV pf (.inl rfl);have pO:w.heap.size≤w1.heap.size:=je.o.size;have hne:p1≠pf:=by
   rintro rfl;have h1:=eK.bd;have h2:=fo.bd;unfold au at h1 h2;rw[h1] at h2;injection h2 with h2;injection h2 with e1 e2 e3;revert e2;decide
  have HXb:=Um (HX.o.ak hbw);have BZ:=Um (CK eK (HQ.o.below (sn.trans ⟨rfl,rfl,rfl,by simp,fun k hk=>Below.heap_setCell _ _ _ k (by simp only;omega)⟩) (aa _)) (by have:=OM.o;omega));obtain⟨cc,cf,cz⟩:=(HX.o.ak hbw).facts;have HZ:=Um (ag gd (ag iV (ag hlk (ag fo (ag eK sn)))));clear eK gd fo iV hlk hbw sn bc bf bz;go_wp2_with fail;refine BZ.o.mono ?_;rintro e w2 ⟨rfl,pv',PB,lR⟩;obtain⟨gd,iV,hlk,fo,eK,sn⟩:=HZ.o;have gy:aE w2 pf R2 S:=fo.mod lR (fun k o hk ho=>by
   subst hk;have h1:=eK.bd;unfold au at h1;rw[h1] at ho;injection ho with ho;subst ho;exact⟨rfl,fun cur e=>by injection e with e1 e2;revert e2;decide⟩)
  have iJ:=HXb.o.mod lR (show¬w.heap.size=p1 by have:=HX.o.lt;omega);obtain⟨dc,df,dz⟩:=iJ.facts;obtain⟨gc,gf,gz⟩:=gy.bd.facts;have HT:=Um (ag PB (ag gy lR));clear gd iV hlk fo eK sn PB gy lR iJ cc cf cz;go_wp2_with fail;go_ret2;obtain⟨gd,iV,hlk,-,-,sn⟩:=HZ.o;obtain⟨PB,gy,lR⟩:=HT.o;have vk:Mod (fun k=>k=pf) w2 (w2.setCell ⟨pf,5,none⟩ (.slice pa pn pc)):=(Mod.refl (fun k=>k=pf) w2).setCell (a:=⟨pf,5,none⟩) (.inl rfl) _;have zk:=lR.size;have Nf:=vk.size;have hwb:=sn.size;refine⟨p1,q1,R1,pv',pf,{R2 with pl:=.slice pa pn pc},rfl,⟨PB.other gy.bd rfl (by decide) (by decide) (by decide) vk,gy.RP _,hlk.now,hlk.oS,rfl,hlk.dd,fun k hk=>ae pO (gd k hk),fun k hk=>ae pO (iV k hk),?_⟩⟩;exact sn.trans ((lR.below (fun k hk=>by omega) hwb).trans (vk.below (fun k hk=>by omega) (by omega)))
end
section
open Go.RowKit
def cnC(x:Cn):List Value:=[.string x.path,.int .i64 x.dir,.int .i64 x.info,.int .i64 x.files,.int .i64 x.out,.int .i64 x.way,.string x.top]
def cnQ(cs:List Value)(x:Cn):Prop:=cs=cnC x
def Cn.v(x:Cn):Value:=.agg #[.string x.path,.int .i64 x.dir,.int .i64 x.info,.int .i64 x.files,.int .i64 x.out,.int .i64 x.way,.string x.top]
inductive Lc (S:Fs) (d:Bool) (c:Cr) (dir:Int) (top:ByteArray) (rd:Cn×Int):Value→Value→Value→Value→Value→Prop
 |s0:rd=S.Js d c dir top→Lc S d c dir top rd (.int .i64 0) (.int .i64 0) (.int .i64 0) (.int .i64 0) (.int .i64 0)
 |s1 (i:Int):rd=S.Jt d c dir top i→Lc S d c dir top rd (.int .i64 1) (.int .i64 i) (.int .i64 0) (.int .i64 0) (.int .i64 0)
 |s2 (i f:Int):rd=S.Ju d c dir top i f→Lc S d c dir top rd (.int .i64 2) (.int .i64 i) (.int .i64 f) (.int .i64 0) (.int .i64 0)
 |s3 (i f o:Int):rd=S.Jv d c dir top i f o→Lc S d c dir top rd (.int .i64 3) (.int .i64 i) (.int .i64 f) (.int .i64 o) (.int .i64 0)
 |s4 (i f o y:Int):rd=S.Jw dir top i f o y→Lc S d c dir top rd (.int .i64 4) (.int .i64 i) (.int .i64 f) (.int .i64 o) (.int .i64 y)
section
variable{w w':World}{pf pw:Nat}{R:Rp}{pv:Value}{Y:Sy}
end
end
section
open Go.RowKit Go.Shelf
attribute [local go_sem] Oper.semAt_some
def xr(ms:List Mt)(is:List It)(dt pt tx:ByteArray)(pl:List (Int×Int)):Bool:=decide (n9 ms is 30=true∧dt.size≤300∧pt.size≤300∧tx.size≤300∧pl.length≤4)
theorem By{ms:List Mt}{is:List It}{dt pt tx:ByteArray}{pl:List (Int×Int)}(h:xr ms is dt pt tx pl=true):n9 ms is 30=true∧dt.size≤300∧pt.size≤300∧tx.size≤300∧pl.length≤4:=of_decide_eq_true h
theorem GY(w:World){ma:Option Addr}{mn mc:Nat}{ia:Option Addr}{il ic:Nat}{ms:List Mt}{is:List It}(h:oW w ma mn mc ia il ic ms is)(u g:Int)(dt pt tx:ByteArray)(no now:Int){pa:Option Addr}{pn pc:Nat}{pl:List (Int×Int)}(hpl:pl.length=pn) :
  Calls Tryz.prog 4 #[.agg #[.slice ma mn mc,.slice ia il ic,.int .i64 u,.int .i64 g,.string dt,.string pt,.string tx,.int .i64 no,.int .i64 now,.slice pa pn pc]] w fun e w'=>e=.returned (.bool (xr ms is dt pt tx pl))∧Up w w':=by
 obtain⟨hB,hb⟩:=Uo w #[.slice ma mn mc,.slice ia il ic,.int .i64 u,.int .i64 g,.string dt,.string pt,.string tx,.int .i64 no,.int .i64 now,.slice pa pn pc] 30;have HF:=Um (GZ _ (h.ak ((Below.refl _ w).alloc (aa _) (.cells #[.slice ma mn mc,.slice ia il ic,.int .i64 u,.int .i64 g,.string dt,.string pt,.string tx,.int .i64 no,.int .i64 now,.slice pa pn pc] 30))) 30);have HE:=Um (show xr ms is dt pt tx pl=decide (n9 ms is 30=true∧dt.size≤300∧pt.size≤300∧tx.size≤300∧pl.length≤4) from rfl);rw[hpl] at HE;generalize xr ms is dt pt tx pl=fb at HE⊢;clear h hpl;go_enter Tryz.func4,Tryz.ntmps4;go_wp2_with fail;refine HF.o.mono ?_;rintro e w1 ⟨rfl,ar⟩;have gm:=hB.ak ar;have HB:=Um (ao hb ar);obtain⟨bc,bf,bz⟩:=gm.facts;clear hB hb ar gm
 cases hf:n9 ms is 30 with
 |false=>
  rw[hf] at HE;have HG:=Um (show fb=false by rw[HE.o];simp);clear hf;go_wp2_with fail;go_ret;exact⟨by rw[HG.o];(try rfl),HB.o⟩
 |true=>
  rw[hf] at HE;clear hf;by_cases h1:dt.size≤300
  ·have mH:(dt.size:Int)≤300:=by omega
   by_cases h2:pt.size≤300
   ·have kA:(pt.size:Int)≤300:=by omega
    by_cases h3:tx.size≤300
    ·have vF:(tx.size:Int)≤300:=by omega
     by_cases hp:pn≤4
     ·have mC:(pn:Int)≤4:=by omega
      have HG:=Um (show fb=true by rw[HE.o];simp[h1,h2,h3,hp]);go_wp2_with fail;go_ret;exact⟨by rw[HG.o];(try rfl),HB.o⟩
     ·have mC:¬(pn:Int)≤4:=by omega
      have HD:=Um (decide_eq_false mC);have HG:=Um (show fb=false by rw[HE.o];simp[h1,h2,h3,hp]);go_wp2_with fail;go_ret;refine⟨?_,HB.o⟩;rw[HG.o];show Ending.returned (.bool (decide ((pn:Int)≤4)))=_;rw[HD.o]
    ·have vF:¬(tx.size:Int)≤300:=by omega
     have HG:=Um (show fb=false by rw[HE.o];simp[h3]);go_wp2_with fail;go_ret;exact⟨by rw[HG.o];(try rfl),HB.o⟩
   ·have kA:¬(pt.size:Int)≤300:=by omega
    have HG:=Um (show fb=false by rw[HE.o];simp[h2]);go_wp2_with fail;go_ret;exact⟨by rw[HG.o];(try rfl),HB.o⟩
  ·have mH:¬(dt.size:Int)≤300:=by omega
   have HG:=Um (show fb=false by rw[HE.o];simp[h1]);go_wp2_with fail;go_ret;exact⟨by rw[HG.o];(try rfl),HB.o⟩
section
variable{w w':World}{pf pw:Nat}{R:Rp}{pv:Value}{Y:Sy}
theorem Fj(h:bK w pf pw R pv Y)(hy:0≤Y.now)(n:Int)(h0:0≤n)(h1:n≤253402300799-Y.now) :
  Calls Tryz.prog 25 #[.pointer (some ⟨pf,0,none⟩),.int .i64 n] w fun e w'=>e=.returned (.int .i64 0)∧bK w' pf pw R pv {Y with now:=Y.now+n}∧Mod (fun k=>k=pf) w w':=by
 have HN:=Um (ir h);have HY:=Um h;obtain⟨pc,pf',pz⟩:=h.bd.facts;have hw:IntKind.i64.wrap (Y.now+n)=Y.now+n:=by simp[IntKind.wrap,IntKind.bits,IntKind.signed];omega
 have Ih:IntKind.i64.wrap (253402300799-Y.now)=253402300799-Y.now:=by simp[IntKind.wrap,IntKind.bits,IntKind.signed];omega
 have h2:¬n<0:=by omega
 have h3:¬253402300799-Y.now<n:=by omega
 clear h;go_enter Tryz.func25,Tryz.ntmps25;go_wp2_with fail;refine HN.o.mono ?_;rintro e w1 ⟨rfl,rfl⟩;go_wp2_with fail;go_ret;exact⟨rfl,HY.o.zJ ((Mod.refl (fun k=>k=pf) w).setCell (a:=⟨pf,1,none⟩) (.inl rfl) _) rfl rfl (HY.o.bd.set 1 _),(Mod.refl (fun k=>k=pf) w).setCell (a:=⟨pf,1,none⟩) (.inl rfl) _⟩
end
theorem aE.O3{w:World}{pf:Nat}{R:Rf}{S:Fs}(h:aE w pf R S)(v:Int):aE (w.setCell ⟨pf,3,none⟩ (.int .i64 v)) pf {R with now:=v} S:=by
 have hm:Mod (fun k=>k=pf) w (w.setCell ⟨pf,3,none⟩ (.int .i64 v)):=(Mod.refl (fun k=>k=pf) w).setCell (a:=⟨pf,3,none⟩) (.inl rfl) _;have hM:Mod (R.F pf) w (w.setCell ⟨pf,3,none⟩ (.int .i64 v)):=hm.mono (fun k hk=>.inl hk);refine⟨h.bd.set 3 _,bq h.sj hm (fun k hk e=>?_),bq h.eI hm (fun k hk e=>?_),h.ns,fun x hx=>(h.aB x hx).rf h (aL.dH hM)⟩
 ·obtain⟨-,hc⟩:=aT h.sj e;exact cT hc h.bd (by decide) hk.symm
 ·obtain⟨-,hc⟩:=aT h.eI e;exact cT hc h.bd (by decide) hk.symm
def AK(n:Int):Int:=if 0≤n∧n≤253402300799 then n else 0
structure LG(w0 w:World)(S:Fs)(nw:Int)(pl:List (Int×Int))(vp:Value)(p1 q1:Nat)(R1:Rp)(v1:Value)(pf:Nat)(R2:Rf):Prop where
 y:bK w p1 q1 R1 v1 ⟨S,nw,0,pl,false⟩
 r:aE w pf R2 S
 now:R2.now=nw
 oS:R2.oS=.int .i64 0
 bD:R2.pl=vp
 dd:R2.dd=.bool false
 f1:∀k,R1.Y p1 q1 k→w0.heap.size≤k
 f2:∀k,R2.F pf k→w0.heap.size≤k
 below:Up w0 w
theorem DQ(w:World){ma:Option Addr}{mn mc:Nat}{ia:Option Addr}{il ic:Nat}{ms:List Mt}{is:List It}(h:oW w ma mn mc ia il ic ms is)(u g:Int)(dt pt tx:ByteArray)(no now:Int){pa:Option Addr}{pn pc:Nat}{pl:List (Int×Int)}(hpl:bj w 2 lX pa pn pc pl)(hf:xr ms is dt pt tx pl=true) :
  Calls Tryz.prog 6 #[.agg #[.slice ma mn mc,.slice ia il ic,.int .i64 u,.int .i64 g,.string dt,.string pt,.string tx,.int .i64 no,.int .i64 now,.slice pa pn pc]] w fun e w'=>∃p1 q1 R1 v1 pf R2,e=.returned (.tuple #[.pointer (some ⟨p1,0,none⟩),.pointer (some ⟨pf,0,none⟩)])∧LG w w' (dS ms is) (AK now) pl (.slice pa pn pc) p1 q1 R1 v1 pf R2:=by
 obtain⟨iV,-,-,-,Om⟩:=By hf;have SE:Kx ms is ⟨#[]⟩ pl=true:=decide_eq_true ⟨iV,by decide,Om⟩;obtain⟨hX,ax⟩:=Uo w #[.slice ma mn mc,.slice ia il ic,.int .i64 u,.int .i64 g,.string dt,.string pt,.string tx,.int .i64 no,.int .i64 now,.slice pa pn pc] 30;have Rx:=Um (DR _ (h.ak ((Below.refl _ w).alloc (aa _) (.cells #[.slice ma mn mc,.slice ia il ic,.int .i64 u,.int .i64 g,.string dt,.string pt,.string tx,.int .i64 no,.int .i64 now,.slice pa pn pc] 30))) 0 0 0 0 ⟨#[]⟩ (bj.below hpl ((Below.refl _ w).alloc (aa _) (.cells #[.slice ma mn mc,.slice ia il ic,.int .i64 u,.int .i64 g,.string dt,.string pt,.string tx,.int .i64 no,.int .i64 now,.slice pa pn pc] 30)) (aa _)) false SE);generalize dS ms is=S at Rx⊢;clear h hpl hf iV Om SE;go_enter Tryz.func6,Tryz.ntmps6;go_upto_region 1 with fail;generalize w.alloc _=w1 at hX ax Rx⊢;have HX:=Um hX;have cM:=Um ax;obtain⟨xc,xf,xz⟩:=hX.facts;clear hX ax;go_wp2_with fail;refine Rx.o.mono ?_;rintro e w2 ⟨p1,q1,R1,v1,pf,R2,rfl,Cf⟩;have HB:=Um Cf;have lZ:=Um (HX.o.ak Cf.below);have Dl:=cM.o.size;have HW:=Um (cM.o.trans (Cf.below.mono Dl));clear Cf xc xf xz;obtain⟨xc,xf,xz⟩:=lZ.o.facts;by_cases hn:0≤now∧now≤253402300799
 ·obtain⟨h0,h1⟩:=hn;have HE:=Um (show AK now=now from if_pos ⟨h0,h1⟩);have HT:=Um (Fj HB.o.y (Int.le_refl 0) now h0 (by show now≤253402300799-0;omega));dsimp only at HT;have hz:(0:Int)+now=now:=by omega
  rw[hz] at HT;go_wp2_with fail;refine HT.o.mono ?_;rintro e w3 ⟨rfl,Nw,vk⟩;have hne:p1≠pf:=by
   rintro rfl;have h1:=HB.o.y.bd;have h2:=HB.o.r.bd;unfold au at h1 h2;rw[h1] at h2;injection h2 with h2;injection h2 with e1 e2 e3;revert e2;decide
  have gy:aE w3 pf R2 S:=HB.o.r.mod vk (fun k o hk ho=>by
   subst hk;have h1:=HB.o.y.bd;unfold au at h1;rw[h1] at ho;injection ho with ho;subst ho;exact⟨rfl,fun cur e=>by injection e with e1 e2;revert e2;decide⟩)
  have iJ:=lZ.o.mod vk (show¬w.heap.size=p1 by have:=HX.o.lt;have:=HB.o.f1 p1 (.inl rfl);omega);have HY:=Um (ag Nw (ag gy vk));obtain⟨gc,gf,gz⟩:=gy.bd.facts;clear Nw vk gy xc xf xz;obtain⟨xc,xf,xz⟩:=iJ.facts;clear iJ;go_wp2_with fail;go_ret2;rw[HE.o];have hm4:Mod (fun k=>k=pf) w3 (w3.setCell ⟨pf,3,none⟩ (.int .i64 now)):=(Mod.refl (fun k=>k=pf) w3).setCell (a:=⟨pf,3,none⟩) (.inl rfl) _;have mC:=HB.o.f1 p1 (.inl rfl);have hpf:=HB.o.f2 pf (.inl rfl);have sm:=HB.o.below.size;have vh:=HY.o.2.2.size;have hsw:=cM.o.size;refine⟨p1,q1,R1,v1,pf,{R2 with now:=now},rfl,⟨HY.o.1.other HY.o.2.1.bd rfl (by decide) (by decide) (by decide) hm4,HY.o.2.1.O3 now,rfl,HB.o.oS,HB.o.bD,HB.o.dd,fun k hk=>ae hsw (HB.o.f1 k hk),fun k hk=>ae hsw (HB.o.f2 k hk),?_⟩⟩;exact HW.o.trans ((HY.o.2.2.below (fun k hk=>by omega) (by omega)).trans (hm4.below (fun k hk=>by omega) (by omega)))
 ·have HE:=Um (show AK now=0 from if_neg hn);have hfin:LG w w2 S (AK now) pl (.slice pa pn pc) p1 q1 R1 v1 pf R2:=by
   rw[HE.o];exact⟨HB.o.y,HB.o.r,HB.o.now,HB.o.oS,HB.o.bD,HB.o.dd,fun k hk=>ae Dl (HB.o.f1 k hk),fun k hk=>ae Dl (HB.o.f2 k hk),HW.o⟩
  have ve:=Um hfin;clear hfin;by_cases h0:0≤now
  ·have h1:¬now≤253402300799:=fun h=>hn ⟨h0,h⟩;clear hn;go_wp2_with fail;go_ret2
   first|exact⟨p1,q1,R1,v1,pf,R2,rfl,ve.o⟩|exact⟨p1,q1,R1,v1,pf,rfl,R2,ve.o⟩
  ·clear hn;go_wp2_with fail;go_ret2
   first|exact⟨p1,q1,R1,v1,pf,R2,rfl,ve.o⟩|exact⟨p1,q1,R1,v1,pf,rfl,R2,ve.o⟩
end
section
open Go.RowKit
def gN(w w':World)(pf pw:Nat)(R:Rp)(pv:Value)(Z:Sy):Prop:=∃R',bK w' pf pw R' pv Z∧aL (R.Y pf pw) (R'.Y pf pw) w w'
section
variable{w w' w'':World}{pf pw:Nat}{R R':Rp}{pv:Value}{Y Z:Sy}
theorem gN.of(h:bK w pf pw R pv Y)(hb:Up w w'):gN w w' pf pw R pv Y:=⟨R,h.ak hb,aL.aq hb⟩
theorem gN.next(hs:aL (R.Y pf pw) (R'.Y pf pw) w w')(h:gN w' w'' pf pw R' pv Z):gN w w'' pf pw R pv Z:=by
 obtain⟨R1,h1,h2⟩:=h;exact⟨R1,h1,hs.trans h2⟩
theorem gN.after(hb:Up w w')(h:gN w' w'' pf pw R pv Z):gN w w'' pf pw R pv Z:=gN.next (aL.aq hb) h
end
end
section
open Go.RowKit
section
variable{w w':World}{pf pw:Nat}{R:Rp}{pv:Value}{Y:Sy}
end
end
section
open Go.RowKit
structure i'(w:World)(B pf:Nat)(R:Rf)(Y:Sy):Prop where
 r:aE w pf R Y.fs
 now:R.now=Y.now
 oS:R.oS=.int .i64 Y.count
 dd:R.dd=.bool Y.dead
 pl:∃pa pn pc w0,R.pl=.slice pa pn pc∧w0.heap.size=B∧bj w0 2 lX pa pn pc Y.bD∧Below B w0 w
 low:∀k,R.F pf k→B≤k
section
variable{w w':World}{B pf:Nat}{R R':Rf}{Y:Sy}{S:Fs}
theorem i'.size(h:i' w B pf R Y):B≤w.heap.size:=by
 obtain⟨pa,pn,pc,w0,-,h1,-,h2⟩:=h.pl;rw[←h1];exact h2.size
theorem i'.to(h:i' w B pf R Y)(hr:aE w' pf R' S)(hb:Below B w w')(hF:∀k,R'.F pf k→B≤k)(hp:R'.pl=R.pl){Z:Sy}(hz:Z.fs=S)(hn:R'.now=Z.now)(hc:R'.oS=.int .i64 Z.count)(hd:R'.dd=.bool Z.dead)(hpl:Z.bD=Y.bD):i' w' B pf R' Z:=by
 obtain⟨pa,pn,pc,w0,h0,h1,h2,h3⟩:=h.pl;refine⟨by rw[hz];exact hr,hn,hc,hd,⟨pa,pn,pc,w0,hp.trans h0,h1,by rw[hpl];exact h2,h3.trans hb⟩,hF⟩
theorem i'.ak(h:i' w B pf R Y)(hb:Up w w'):i' w' B pf R Y:=h.to (h.r.ak hb) (hb.mono h.size) h.low rfl rfl h.now h.oS h.dd rfl
theorem i'.step(h:i' w B pf R Y)(hr:aE w' pf R' S)(hs:aL (R.F pf) (R'.F pf) w w')(hl:Rf.ct R R'):i' w' B pf R' {Y with fs:=S}:=
 h.to hr (hs.below h.low h.size) (hs.aQ h.low h.size) hl.pl rfl (hl.now.trans h.now) (hl.oS.trans h.oS) (hl.dd.trans h.dd) rfl
theorem aE.RH(h:aE w pf R S)(hm:Mod (fun k=>k=pf) w w'){c d:Value}(hb:au w' pf #[R.nv,R.dv,.int .i64 S.last,.int .i64 R.now,c,R.pl,d] 76):aE w' pf {R with oS:=c,dd:=d} S:=by
 have hM:Mod (R.F pf) w w':=hm.mono (fun k hk=>.inl hk);refine⟨hb,bq h.sj hm (fun k hk e=>?_),bq h.eI hm (fun k hk e=>?_),h.ns,fun x hx=>(h.aB x hx).rf h (aL.dH hM)⟩
 ·obtain⟨-,hc⟩:=aT h.sj e;exact cT hc h.bd (by decide) hk.symm
 ·obtain⟨-,hc⟩:=aT h.eI e;exact cT hc h.bd (by decide) hk.symm
def dE(w w':World)(B pf:Nat)(R:Rf)(Z:Sy):Prop:=∃R',i' w' B pf R' Z∧aL (R.F pf) (R'.F pf) w w'
theorem dE.of(h:i' w B pf R Y)(hb:Up w w'):dE w w' B pf R Y:=⟨R,h.ak hb,aL.aq hb⟩
theorem dE.next{w'':World}(hs:aL (R.F pf) (R'.F pf) w w')(h:dE w' w'' B pf R' Y):dE w w'' B pf R Y:=by
 obtain⟨R1,h1,h2⟩:=h;exact⟨R1,h1,hs.trans h2⟩
theorem dE.after{w'':World}(hb:Up w w')(h:dE w' w'' B pf R Y):dE w w'' B pf R Y:=dE.next (aL.aq hb) h
end
end
section
open Go.RowKit
section
variable{w w':World}{B pf:Nat}{R:Rf}{Y:Sy}
theorem i'.eB(h:i' w B pf R Y)(hm:Mod (fun k=>k=pf) w w'){Z:Sy}(hz:Z.fs=Y.fs)(hn:Z.now=Y.now)(hp:Z.bD=Y.bD)(hb:au w' pf #[R.nv,R.dv,.int .i64 Y.fs.last,.int .i64 R.now,.int .i64 Z.count,R.pl,.bool Z.dead] 76):dE w w' B pf R Z:=by
 have hs:aL (R.F pf) (R.F pf) w w':=aL.dH (hm.mono (fun k hk=>.inl hk));exact⟨{R with oS:=.int .i64 Z.count,dd:=.bool Z.dead},h.to (h.r.RH hm hb) (hs.below h.low h.size) h.low rfl hz (h.now.trans hn.symm) rfl rfl hp,hs⟩
theorem wh(h:i' w B pf R Y)(hc:0≤Y.count∧Y.count≤4611686018427387904)(hl:Y.bD.length≤1000000) :
  Calls Tryz.prog 65 #[.pointer (some ⟨pf,0,none⟩)] w fun e w'=>e=.returned (.int .i64 Y.change.2)∧dE w w' B pf R Y.change.1:=by
 have HY:=Um h;obtain⟨GJ,eS⟩:=hc;obtain⟨pa,pn,pcap,w0,M',Pm,SS,sn⟩:=h.pl;have hbf:B≤pf:=h.low pf (.inl rfl);have BZ:=Um (fun wr (hm:Mod (fun x=>x=pf) w wr)=>SS.below (sn.trans ((aL.dH (F:=R.F pf) (hm.mono (fun k hk=>.inl hk))).below h.low h.size)) (Nat.le_of_eq Pm));obtain⟨rfl,hle,sI,hor⟩:=SS;have HBp:=Um (show∀b off,pa=some ⟨b,off,none⟩→Y.bD.length=0∨¬b=pf from fun b off e=>by
  rcases hor with h0|⟨b',off',e',hlt,-⟩
  ·exact .inl h0
  ·rw[e'] at e;injection e with e;injection e with e1 e2;right;omega)
 clear hor;have hB:=h.r.bd;rw[h.oS,h.dd,M'] at hB;have ky:=Um M';generalize hnw:R.now=now at hB;have Qm:=Um hnw;obtain⟨pc,pf',pz⟩:=hB.facts
 cases hd:Y.dead with
 |true=>
  have HE:=Um (r' hd);rw[hd] at pc;clear h hd hB sn M' hnw Pm hbf;go_enter Tryz.func65,Tryz.ntmps65;go_wp2_with fail;go_ret;rw[HE.o];exact⟨rfl,dE.of HY.o (Below.refl _ _)⟩
 |false=>
  rw[hd] at pc hB;have HD:=Um hd;have cM:=Um (hB.set 4 (.int .i64 (Y.count+1)));clear h hd hB sn M' hnw Pm hbf;go_enter Tryz.func65,Tryz.ntmps65;go_wp2_with fail
  go_loopw [3] (fun t3 wr=>∃k:Nat,k≤Y.bD.length∧t3=.int .i64 k∧au wr pf #[R.nv,R.dv,.int .i64 Y.fs.last,.int .i64 now,.int .i64 (Y.count+1),.slice pa Y.bD.length pcap,.bool false] 76∧Mod (fun x=>x=pf) w wr∧(∀j (hj:j<Y.bD.length),j<k→Y.bD[j].1≠Y.count+1)) (fun t3 _=>Y.bD.length-(intOf t3).toNat)
  case atStart=>exact⟨0,Nat.zero_le _,rfl,cM.o,(Mod.refl (fun x=>x=pf) w).setCell (a:=⟨pf,4,none⟩) (.inl rfl) _,fun j _ h=>absurd h (Nat.not_lt_zero _)⟩
  case round=>
   obtain⟨k,hk,rfl,hb,hm,hbef⟩:=hrel;have je:=Um hb;have OL:=Um hm;have L':=Um hbef;obtain⟨bc,bf,bz⟩:=hb.facts;have hpl:=BZ.o wr hm;clear hb hbef;by_cases hlt:k<Y.bD.length
   ·obtain⟨-,-,-,h0|⟨b,off,he,hbl,hel⟩⟩:=hpl
    ·omega
    ·subst he;obtain⟨cs,e1,e2,e3⟩:=hel k hlt;unfold lX at e2;subst e2;have c0:=e3 0 (by rw[eG];omega);have c1:=e3 1 (by rw[eG];omega);obtain⟨fa,fw,hfe⟩:∃fa fw,Y.bD[k]=(fa,fw):=⟨_,_,rfl⟩;have Ic:=Um hfe;have c0':wr.cell? ⟨b,off+k*2,none⟩=some (.int .i64 fa):=by rw[hfe] at c0;exact c0
     have c1':wr.cell? ⟨b,off+k*2+1,none⟩=some (.int .i64 fw):=by rw[hfe] at c1;exact c1
     have mixed:Tryz.prog.follows .mixedOrders=true:=by kernel_rfl
     clear hel e1 e3 c0 c1 hm hfe;go_upto_region 7 with fail;refine ay 12 mixed (by kernel_rfl) (show bV _ from by repeat (first|exact cZ|refine cY ?_|refine cw ?_|refine cJ ?_)) ?_;simp only[List.take_succ_cons,List.take_zero,List.drop_succ_cons,List.drop_zero]
     repeat still_step
     refine wpStill_nil ?_;have hbp:¬b=pf:=(HBp.o b off rfl).resolve_left (by omega);by_cases he:fa=Y.count+1
     ·have HE:=Um (xA HD.o hlt L'.o (by rw[Ic.o];exact he));rw[Ic.o] at HE;have heb:(fa==Y.count+1)=true:=by simpa using he
      clear he;by_cases Kp:fw=20
      ·have DE:(fw==20)=true:=by simpa using Kp
       have HV:=Um (show(fw==20)=true from DE);clear Kp;go_wp2_with fail;go_ret;rw[HE.o];exact⟨rfl,HY.o.eB (OL.o.drew.setCell (a:=⟨pf,6,none⟩) (.inl rfl) _) rfl rfl rfl (by dsimp only;rw[HV.o,ky.o,Qm.o];exact je.o.drew.set 6 _)⟩
      ·have DE:(fw==20)=false:=by simpa using Kp
       have HV:=Um (show(fw==20)=false from DE);clear Kp;go_wp2_with fail;go_ret;rw[HE.o];exact⟨rfl,HY.o.eB OL.o.drew rfl rfl rfl (by dsimp only;rw[HV.o,ky.o,Qm.o];exact je.o.drew)⟩
     ·have heb:(fa==Y.count+1)=false:=by simpa using he
      have HN:=Um he;clear he;go_wp2_with fail;go_roundw
      case rel=>exact⟨k+1,by omega,by go_num,je.o.drew,OL.o.drew,fun j hj uk=>by
       by_cases hjk:j=k
       ·subst hjk;rw[Ic.o];exact HN.o
       ·exact L'.o j hj (by omega)⟩
      case measure=>simp[intOf];omega
   ·obtain rfl:k=Y.bD.length:=by omega
    have HE:=Um (mP HD.o (fun x hx=>by obtain⟨j,hj,rfl⟩:=List.mem_iff_getElem.1 hx;exact L'.o j hj hj));clear hm hpl;go_wp2_with fail;go_ret;rw[HE.o];exact⟨rfl,HY.o.eB OL.o rfl rfl rfl (by rw[HD.o,ky.o,Qm.o];exact je.o)⟩
end
end
section
open Go.RowKit
section
variable{w w':World}{B pf:Nat}{R:Rf}{Y:Sy}
theorem vA(h:i' w B pf R Y){N:Nat}(hk:av Y.fs N)(hN:N≤100000)(hgl:Y.fs.ns.length≤100000)(hc:0≤Y.count∧Y.count≤4611686018427387904)(hl:Y.bD.length≤1000000)(c:Cr)(dir:Int)(s:ByteArray)(hs:s.size≤100000)(mode:Int)(data:ByteArray) :
  Calls Tryz.prog 36 #[.pointer (some ⟨pf,0,none⟩),.agg #[.int .i64 c.u,.int .i64 c.g],.int .i64 dir,.string s,.int .i64 mode,.string data] w fun e w'=>
   e=.returned (.tuple #[.int .i64 (Y.op (fun S now=>S.file c now dir s mode data)).2.1,.int .i64 (Y.op (fun S now=>S.file c now dir s mode data)).2.2])∧dE w w' B pf R (Y.op (fun S now=>S.file c now dir s mode data)).1:=by
 have bO:=al (Uq w) (.cells #[.int .i64 c.u,.int .i64 c.g] 69);have HC:=Um (wh (h.ak bO) hc hl);obtain⟨gd,iV,yy⟩:=eJ Y;have HF:=Um (ag gd iV);have gP:av Y.change.1.fs N:=by rw[gd];exact hk
 have Sz:Y.change.1.fs.ns.length≤100000:=by rw[gd];exact hgl
 have hnF:¬R.F pf w.heap.size:=fun hf=>by have:=h.r.lt hf;omega
 have HK:=Um (ag gP Sz);have LW:=Um (aL.aq (F:=R.F pf) bO);clear h hk gd iV yy bO gP Sz hgl;go_enter Tryz.func36,Tryz.ntmps36;go_wp2_with fail;refine HC.o.mono ?_;rintro e w1 ⟨rfl,R1,eK,eR⟩;have qh:=Um (LW.o.trans eR);by_cases h0:Y.change.2=0
 ·have nZ:(Y.change.2==0)=true:=by simpa using h0
  have HE:=Um (show Y.op (fun S now=>S.file c now dir s mode data)=_ from if_neg (by simp[h0]));have hcr:=(au.new w #[.int .i64 c.u,.int .i64 c.g] 69).mod eR.mod hnF;obtain⟨cc,-,cz⟩:=hcr.facts;have HD:=Um (tA eK.r c HK.o.1 hN HK.o.2 dir s hs mode data);have iR:=Um eK;clear h0 hcr eK eR;go_wp2_with fail;refine HD.o.mono ?_;rintro e w5 ⟨rfl,R5,gQ,eu,Bf⟩;have yV:=Um (iR.o.step gQ eu Bf);have sv:=Um (qh.o.trans eu);clear gQ eu Bf;go_wp2_with fail;go_ret2;have h5:=yV.o;rw[iR.o.now] at h5;rw[HE.o,HF.o.1.symm,HF.o.2.symm,iR.o.now];exact⟨rfl,R5,h5,sv.o⟩
 ·have nZ:(Y.change.2==0)=false:=by simpa using h0
  have HE:=Um (show Y.op (fun S now=>S.file c now dir s mode data)=_ from if_pos h0);have iR:=Um eK;clear eK h0 eR;generalize Y.change.2=ce at HE nZ⊢;go_wp2_with fail;go_ret2;rw[HE.o];exact⟨rfl,R1,iR.o,qh.o⟩
end
end
section
open Go.RowKit
section
variable{w w':World}{pf:Nat}{R:Rf}{S:Fs}
theorem FB(h:aE w pf R S)(c:Cr)(no:Int)(data:ByteArray)(hg:S.get no=none) :
  Calls Tryz.prog 66 #[.pointer (some ⟨pf,0,none⟩),.agg #[.int .i64 c.u,.int .i64 c.g],.int .i64 no,.string data] w fun e w'=>e=.returned (.int .i64 5)∧Up w w':=by
 have ax:=al (Uq w) (.cells #[.int .i64 c.u,.int .i64 c.g] 69);have HG:=Um (jh (h.ak ax) hg);have aJ:=Um ax;unfold An.v dh at HG;clear h hg ax;go_enter Tryz.func66,Tryz.ntmps66;go_wp2_with fail;refine HG.o.mono ?_;rintro e w1 ⟨rfl,ar⟩;have HB:=Um (ao aJ.o ar);clear ar;go_wp2_with fail;go_ret;exact⟨rfl,al HB.o _⟩
theorem z'(h:aE w pf R S){N:Nat}(hk:av S N)(c:Cr)(no:Int)(data:ByteArray)(hs:data.size≤9223372036854775807)(d:An)(hg:S.get no=some d) :
  Calls Tryz.prog 66 #[.pointer (some ⟨pf,0,none⟩),.agg #[.int .i64 c.u,.int .i64 c.g],.int .i64 no,.string data] w fun e w'=>e=.returned (.int .i64 (S.fill c R.now no data).2)∧∃R',aE w' pf R' (S.fill c R.now no data).1∧aL (R.F pf) (R'.F pf) w w'∧Rf.ct R R':=by
 obtain⟨hdo,hdn,-,-⟩:=hk.get hg;obtain⟨v,hv,-⟩:=q' hdo.dev.1 hdo.dev.2;obtain⟨ea,el,ec,he,hG⟩:=fe h hg;obtain⟨hX0,bO⟩:=Uo w #[.int .i64 c.u,.int .i64 c.g] 69;have HG:=Um hG;unfold An.v at HG;have lM:=Um (fun w=>kP c d ea el ec 2 hdo.mode (by omega) w);unfold An.v at lM;have jV:=Um (fun(w2:World) (hb:Up w w2)=>show∃R',aE w2 pf R' S∧aL (R.F pf) (R'.F pf) w w2∧Rf.ct R R' from⟨R,h.ak hb,aL.aq hb,Rf.ct.refl R⟩);have hdz:(d.no==0)=false:=by
  have h0:=sJ hk no;have e:S.cC no=d:=by unfold Fs.cC;rw[hg];rfl
  rw[e,hg] at h0;exact h0
 have Rt:=Um (fun(h2:d.kind=2) (h3:data.size≤1048576) w1 (ar:Up w w1)=>FQ (h.ak ar) hk no d hg h2 v hv data h3);have HR:=Um (show S.fill c R.now no data=if d.kind=1 then(S,8) else if d.kind≠2 then(S,1) else if d.may c 2=false then(S,6) else if 1048576<data.size then(S,3) else
   if gZ v.b v.n v.mb v.mn (cK d data) 0≠0 then(S,gZ v.b v.n v.mb v.mn (cK d data) 0)
   else((S.aR d.dev {v with b:=v.b+cK d data}).set {d with data:=data,mtime:=R.now,ctime:=R.now},0) by unfold Fs.fill;rw[hg];simp only;rw[hv])
 generalize d.may c 2=my at lM HR;generalize S.fill c R.now no data=fr at HR⊢;obtain⟨cc,-,cz⟩:=hX0.facts;have sx:=Um hk.nums;have bP:=Um bO;have Rc:=Um hX0;have HD:=Um (ag hdo (ag hdn hg));have HH:=Um h;have HE:=Um he;clear h hk hg he hG hdo hdn hv hX0 bO;go_enter Tryz.func66,Tryz.ntmps66;go_wp2_with fail;refine(HG.o _ bP.o).mono ?_;rintro e w1 ⟨rfl,ar⟩;have hX:=au.new w1 #[.int .i64 d.no,.int .i64 d.dev,.int .i64 d.kind,.int .i64 d.mode,.int .i64 d.uid,.int .i64 d.gid,.int .i64 d.mtime,.int .i64 d.ctime,.int .i64 d.an,.int .i64 d.up,.string d.data,.slice ea el ec] 99;have ax:=al (ao bP.o ar) (.cells #[.int .i64 d.no,.int .i64 d.dev,.int .i64 d.kind,.int .i64 d.mode,.int .i64 d.uid,.int .i64 d.gid,.int .i64 d.mtime,.int .i64 d.ctime,.int .i64 d.an,.int .i64 d.up,.string d.data,.slice ea el ec] 99);have eS:=(Rc.o.ak ar).eE (.cells #[.int .i64 d.no,.int .i64 d.dev,.int .i64 d.kind,.int .i64 d.mode,.int .i64 d.uid,.int .i64 d.gid,.int .i64 d.mtime,.int .i64 d.ctime,.int .i64 d.an,.int .i64 d.up,.string d.data,.slice ea el ec] 99);have lh:=(ao bP.o ar).size;go_upto_region 2 with fail;clear ar cc cz;generalize w1.alloc _=W at hX ax eS⊢;obtain⟨Bn,vE⟩:∃Bn,w1.heap.size=Bn:=⟨_,rfl⟩;rw[vE] at hX lh⊢;have aJ:=Um ax;have HX:=Um hX;have HLe:=Um lh;obtain⟨bc,bf,bz⟩:=hX.facts;obtain⟨cc,-,cz⟩:=eS.facts;clear hX ax eS lh vE;by_cases h1:d.kind=1
 ·have fX:=Um (HR.o.trans (if_pos h1));have gx:(d.kind==1)=true:=by simpa using h1
  clear h1;go_wp2_with fail;go_ret;rw[fX.o];exact⟨rfl,jV.o _ aJ.o⟩
 by_cases h2:d.kind≠2
 ·have fX:=Um (HR.o.trans ((if_neg h1).trans (if_pos h2)));have gx:(d.kind==1)=false:=by simpa using h1
  have fT:(d.kind != 2)=true:=by simpa using h2
  clear h1 h2;go_wp2_with fail;go_ret;rw[fX.o];exact⟨rfl,jV.o _ aJ.o⟩
 have h2:d.kind=2:=by simpa using h2
 have L2:=Um h2;have gx:(d.kind==1)=false:=by simpa using h1
 have fT:(d.kind != 2)=false:=by simpa using h2
 have jW:=Um (HR.o.trans ((if_neg h1).trans (if_neg (by simpa using h2))));clear h1 h2;go_wp2_with fail;refine(lM.o _).mono ?_;rintro e w2 ⟨rfl,aD⟩;have cV:=Um (ao aJ.o aD);have lZ:=Um (HX.o.ak aD);clear aD bc bf bz cc cz
 cases my with
 |false=>
  have fX:=Um (jW.o.trans (if_pos rfl));go_wp2_with fail;go_ret;rw[fX.o];exact⟨rfl,jV.o _ cV.o⟩
 |true=>
  have fX:=Um (jW.o.trans (if_neg (by simp)));by_cases h3:1048576<data.size
  ·have cq:=Um (fX.o.trans (if_pos h3));have J0:(1048576:Int)<data.size:=by omega
   clear h3;go_wp2_with fail;go_ret;rw[cq.o];exact⟨rfl,jV.o _ cV.o⟩
  have cq:=Um (fX.o.trans (if_neg h3));have J0:¬(1048576:Int)<data.size:=by omega
  have Qt:=Um (Rt.o L2.o (by omega) _ cV.o);clear h3;have HW:=Um (show S.lK d v data=if gZ v.b v.n v.mb v.mn (cK d data) 0≠0 then(S,gZ v.b v.n v.mb v.mn (cK d data) 0) else((S.aR d.dev {v with b:=v.b+cK d data}).set {d with data:=data},0) from rfl);have HNF:=Um (show¬R.F pf Bn from fun hf=>absurd (HH.o.lt hf) (by have:=HLe.o;omega));generalize S.lK d v data=fw at HW Qt;by_cases h4:gZ v.b v.n v.mb v.mn (cK d data) 0≠0
  ·have e1:=HW.o.trans (if_pos h4);have vg:=Um (cq.o.trans (if_pos h4));have hz4:(gZ v.b v.n v.mb v.mn (cK d data) 0 != 0)=true:=by simpa using h4
   generalize gZ v.b v.n v.mb v.mn (cK d data) 0=te at e1 vg hz4;subst e1;clear h4 cq fX jW HR HW Rt;go_wp2_with fail;refine Qt.o.mono ?_;rintro e w3 ⟨rfl,R1,ev,oN,PL⟩;have L6:=Um (ag ev (ag oN PL));clear ev oN PL;go_wp2_with fail;go_ret;rw[vg.o];exact⟨rfl,R1,L6.o.1,(aL.aq cV.o).trans L6.o.2.1,L6.o.2.2⟩
  ·have e1:=HW.o.trans (if_neg h4);have vg:=Um (cq.o.trans (if_neg h4));subst e1;clear h4 cq fX jW HR HW Rt;go_wp2_with fail;refine Qt.o.mono ?_;rintro e w3 ⟨rfl,R1,ev,oN,PL⟩;have iJ:=lZ.o.mod oN.mod HNF.o;obtain⟨hdo,hdn,hgd⟩:=HD.o;have SC:((S.aR d.dev {v with b:=v.b+cK d data}).set {d with data:=data}).get no=some {d with data:=data}:=by
    rw[gX (a:={d with data:=data}) (b:=d) (by show S.get d.no=some d;rw[hdn];exact hgd),if_pos hdn.symm]
   obtain⟨fa,fl,fc,hfe,Td⟩:=fe ev SC;have N8:=Um Td;unfold An.v at N8;dsimp only at N8;have qp:=Um iJ;have L6:=Um (ag ev (ag oN (ag PL hfe)));clear ev oN PL iJ hdo hdn hgd SC hfe Td;go_wp2_with fail;refine(N8.o _ (Below.refl _ _)).mono ?_;rintro e w4 ⟨rfl,dI⟩;have GN:=qp.o.ak dI;have se:=Um (L6.o.1.ak dI);obtain⟨rc,rf,rz⟩:=GN.facts;obtain⟨pc,-,pz⟩:=se.o.bd.facts;clear GN;have hne1:pf≠Bn:=fun e=>HNF.o (by rw[←e];exact .inl rfl);have Su:Bn≠pf:=fun e=>hne1 e.symm;have HNF1:=Um (show¬R1.F pf Bn from fun hf=>(L6.o.2.1.2 Bn hf).elim HNF.o (fun h=>by have:=lZ.o.lt;omega));generalize hnw:R1.now=nw at pc;have HNW:=Um hnw;clear hnw;go_upto_region 18 with fail;have LR:=qp.o.ak dI;have hm:Mod (fun k=>k=Bn) w4 ((((((((((((((w4.setCell ⟨Bn,0,none⟩ (.int .i64 d.no)).setCell ⟨Bn,1,none⟩ (.int .i64 d.dev)).setCell ⟨Bn,2,none⟩ (.int .i64 d.kind)).setCell ⟨Bn,3,none⟩ (.int .i64 d.mode)).setCell ⟨Bn,4,none⟩ (.int .i64 d.uid)).setCell ⟨Bn,5,none⟩ (.int .i64 d.gid)).setCell ⟨Bn,6,none⟩ (.int .i64 d.mtime)).setCell ⟨Bn,7,none⟩ (.int .i64 d.ctime)).setCell ⟨Bn,8,none⟩ (.int .i64 d.an)).setCell ⟨Bn,9,none⟩ (.int .i64 d.up)).setCell ⟨Bn,10,none⟩ (.string data)).setCell ⟨Bn,11,none⟩ (.slice fa fl fc)).setCell ⟨Bn,6,none⟩ (.int .i64 nw)).setCell ⟨Bn,7,none⟩ (.int .i64 nw)):=
    ((yt Bn [.int .i64 d.no,.int .i64 d.dev,.int .i64 d.kind,.int .i64 d.mode,.int .i64 d.uid,.int .i64 d.gid,.int .i64 d.mtime,.int .i64 d.ctime,.int .i64 d.an,.int .i64 d.up,.string data,.slice fa fl fc] w4 0).setCell (a:=⟨Bn,6,none⟩) (.inl rfl) _).setCell (a:=⟨Bn,7,none⟩) (.inl rfl) _
   have jP:=((LR.dR (v0:=.int .i64 d.no) (v1:=.int .i64 d.dev) (v2:=.int .i64 d.kind) (v3:=.int .i64 d.mode) (v4:=.int .i64 d.uid) (v5:=.int .i64 d.gid) (v6:=.int .i64 d.mtime) (v7:=.int .i64 d.ctime) (v8:=.int .i64 d.an) (v9:=.int .i64 d.up) (v10:=.string data) (v11:=.slice fa fl fc)).set 6 (.int .i64 nw)).set 7 (.int .i64 nw);have qm:=se.o.node LR HNF1.o hm;have DA:=(L6.o.2.2.2.ak dI).node LR hm;have rV:=((aL.aq (F:=R.F pf) cV.o).trans L6.o.2.1).trans (aL.aq (F:=R1.F pf) dI);have sq:aL (R.F pf) (R1.F pf) w _:=⟨rV.mod.new hm (by have:=HLe.o;have:=bP.o.size;omega),rV.2⟩;clear rc rf rz pc pz LR dI hm rV;generalize ((((((((((((((w4.setCell ⟨Bn,0,none⟩ (.int .i64 d.no)).setCell ⟨Bn,1,none⟩ (.int .i64 d.dev)).setCell ⟨Bn,2,none⟩ (.int .i64 d.kind)).setCell ⟨Bn,3,none⟩ (.int .i64 d.mode)).setCell ⟨Bn,4,none⟩ (.int .i64 d.uid)).setCell ⟨Bn,5,none⟩ (.int .i64 d.gid)).setCell ⟨Bn,6,none⟩ (.int .i64 d.mtime)).setCell ⟨Bn,7,none⟩ (.int .i64 d.ctime)).setCell ⟨Bn,8,none⟩ (.int .i64 d.an)).setCell ⟨Bn,9,none⟩ (.int .i64 d.up)).setCell ⟨Bn,10,none⟩ (.string data)).setCell ⟨Bn,11,none⟩ (.slice fa fl fc)).setCell ⟨Bn,6,none⟩ (.int .i64 nw)).setCell ⟨Bn,7,none⟩ (.int .i64 nw))=Y at jP qm DA sq⊢;obtain⟨q0,q1,q2,q3,q4,q5,q6,q7,q8,q9,q10,q11⟩:=au.eX (x0:=.int .i64 d.no) jP;have iE:=iL qm (show gY _ from gY.set (S:=S.aR d.dev {v with b:=v.b+cK d data}) ⟨sx.o.hH,sx.o.low⟩ {d with data:=data}) (a:={d with data:=data,mtime:=nw,ctime:=nw}) DA (b:={d with data:=data}) (by
    obtain⟨-,hdn,hgd⟩:=HD.o;rw[gX (a:={d with data:=data}) (b:=d) (by show S.get d.no=some d;rw[hdn];exact hgd)];exact if_pos rfl)
   rw[set_set _ (show({d with data:=data}:An).no=({d with data:=data,mtime:=nw,ctime:=nw}:An).no from rfl)] at iE;unfold An.v at iE;dsimp only at iE;have dW:=Um iE;have Ir:=Um sq;clear qm DA sq jP iE;go_wp2_with fail;refine dW.o.mono ?_;rintro e w8 ⟨rfl,R',ev,fo,gy,-⟩;have xJ:=Um (ag ev (ag fo gy));clear ev fo gy;go_wp2_with fail;go_ret;have jj:R.now=nw:=by rw[←HNW.o];exact L6.o.2.2.1.now.symm
   rw[vg.o,jj];exact⟨rfl,R',xJ.o.1,Ir.o.trans xJ.o.2.1,L6.o.2.2.1.trans xJ.o.2.2⟩
end
end
section
open Go.RowKit
section
variable{w w':World}{pf:Nat}{R:Rf}{S:Fs}
theorem xU(h:aE w pf R S){N:Nat}(hk:av S N)(c:Cr)(no:Int)(data:ByteArray)(hs:data.size≤9223372036854775807) :
  Calls Tryz.prog 66 #[.pointer (some ⟨pf,0,none⟩),.agg #[.int .i64 c.u,.int .i64 c.g],.int .i64 no,.string data] w fun e w'=>e=.returned (.int .i64 (S.fill c R.now no data).2)∧∃R',aE w' pf R' (S.fill c R.now no data).1∧aL (R.F pf) (R'.F pf) w w'∧Rf.ct R R':=by
 cases hg:S.get no with
 |none=>
  refine(FB h c no data hg).mono ?_;rintro e w1 ⟨rfl,hb⟩;have:S.fill c R.now no data=(S,5):=by unfold Fs.fill;rw[hg]
  rw[this];exact⟨rfl,R,h.ak hb,aL.aq hb,Rf.ct.refl R⟩
 |some d=>exact z' h hk c no data hs d hg
end
section
variable{w w':World}{B pf:Nat}{R:Rf}{Y:Sy}
theorem xT(h:i' w B pf R Y){N:Nat}(hk:av Y.fs N)(hc:0≤Y.count∧Y.count≤4611686018427387904)(hl:Y.bD.length≤1000000)(c:Cr)(no:Int)(data:ByteArray)(hs:data.size≤9223372036854775807) :
  Calls Tryz.prog 32 #[.pointer (some ⟨pf,0,none⟩),.agg #[.int .i64 c.u,.int .i64 c.g],.int .i64 no,.string data] w fun e w'=>
   e=.returned (.int .i64 (Y.pW c no data).2)∧dE w w' B pf R (Y.pW c no data).1:=by
 have bO:=al (Uq w) (.cells #[.int .i64 c.u,.int .i64 c.g] 69);have HC:=Um (wh (h.ak bO) hc hl);obtain⟨gd,iV,yy⟩:=eJ Y;have HF:=Um (ag gd iV);have gP:av Y.change.1.fs N:=by rw[gd];exact hk
 have hnF:¬R.F pf w.heap.size:=fun hf=>by have:=h.r.lt hf;omega
 have HK:=Um gP;have LW:=Um (aL.aq (F:=R.F pf) bO);unfold Sy.pW;clear h hk gd iV yy bO gP;go_enter Tryz.func32,Tryz.ntmps32;go_wp2_with fail;refine HC.o.mono ?_;rintro e w1 ⟨rfl,R1,eK,eR⟩;have qh:=Um (LW.o.trans eR);by_cases h0:Y.change.2=0
 ·have nZ:(Y.change.2 != 0)=false:=by simpa using h0
  have HE:=Um (show Y.nt (fun S now=>S.fill c now no data)=_ from if_neg (by simp[h0]));have hcr:=(au.new w #[.int .i64 c.u,.int .i64 c.g] 69).mod eR.mod hnF;obtain⟨cc,-,cz⟩:=hcr.facts;have HD:=Um (xU eK.r HK.o c no data hs);have iR:=Um eK;clear h0 hcr eK eR;go_wp2_with fail;refine HD.o.mono ?_;rintro e w5 ⟨rfl,R5,gQ,eu,Bf⟩;have yV:=Um (iR.o.step gQ eu Bf);have sv:=Um (qh.o.trans eu);clear gQ eu Bf;go_wp2_with fail;go_ret;have h5:=yV.o;rw[iR.o.now] at h5;rw[HE.o,HF.o.1.symm,HF.o.2.symm,iR.o.now];exact⟨rfl,R5,h5,sv.o⟩
 ·have nZ:(Y.change.2 != 0)=true:=by simpa using h0
  have HE:=Um (show Y.nt (fun S now=>S.fill c now no data)=_ from if_pos h0);have iR:=Um eK;clear eK h0 eR;generalize Y.change.2=ce at HE nZ⊢;go_wp2_with fail;go_ret;rw[HE.o];exact⟨rfl,R1,iR.o,qh.o⟩
end
end
end Go.Proofs.YtinflmadpnigfaaGreatDoor
