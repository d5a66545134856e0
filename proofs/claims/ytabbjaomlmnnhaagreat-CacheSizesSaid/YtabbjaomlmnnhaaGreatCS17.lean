import Derived.OrdersHeld
import Derived.Deep.RegionHeld3
import Derived.BigQuiet
import Derived.Deep.LoopGhost
import Derived.Test.YtabbjaomlmnnhaaGreatCS16
import Derived.Test.YtabbjaomlmnnhaaGreatCS14
import Derived.Test.YtabbjaomlmnnhaaGreatCS12
import Derived.Test.YtabbjaomlmnnhaaGreatCS15
import Derived.Test.YtabbjaomlmnnhaaGreatCS1
import Derived.Test.YtabbjaomlmnnhaaGreatCS6
import Derived.Test.YtabbjaomlmnnhaaGreatCS2
import Derived.Test.YtabbjaomlmnnhaaGreatCS13
import Derived.Test.YtabbjaomlmnnhaaGreatCS9
import Derived.Test.YtabbjaomlmnnhaaGreatCS8
set_option linter.unusedVariables false
set_option linter.unusedSimpArgs false
set_option maxRecDepth 100000
set_option maxHeartbeats 16000000
namespace Go.Proofs.YtabbjaomlmnnhaaGreat
section
open Go.RowKit
theorem Ie(S:Fs)(c:Cr)(at':Int)(p:List UInt8):S.step c at' p=if(S.bl at').kind≠1 then(0,9) else if(S.bl at').may c 1=false then(0,6) else if p=[46,46] then(S.aX at',0) else if 255<p.length then(0,13) else(S.aC (aF (S.bl at').ay (str p)),0):=by
 unfold Fs.step Fs.bl
 cases S.get at' with
 |none=>rfl
 |some d=>rfl
theorem Dr{S:Fs}{N:Nat}(hk:ax S N)(k:Int):0≤(S.bl k).mode∧(S.bl k).mode≤1023:=by
 unfold Fs.bl
 cases h:S.get k with
 |none=>exact⟨by decide,by decide⟩
 |some a=>exact(hk.get h).1.mode
section
variable{w w':World}{pf:Nat}{R:Rf}{S:Fs}
theorem zM(h:aN w pf R S){N:Nat}(hk:ax S N)(cr:Cr)(path:ByteArray)(hs:path.size≤100000)(f:Bool) :
  Calls Tryz.prog 131 #[.pointer (some ⟨pf,0,none⟩),.agg #[.int .i64 cr.u,.int .i64 cr.g],.string path,.bool f] w fun e w'=>e=.returned (.tuple #[(S.path cr path f).1.v,.int .i64 (S.path cr path f).2])∧Qi w w':=by
 have cH:=aq (aq (Qj w) (.cells #[.int .i64 cr.u,.int .i64 cr.g] 64)) (.cells #[.int .i64 0,.string ⟨#[]⟩,.int .i64 0,.bool false] 176);have Kd:=aw.new (w.alloc (.cells #[.int .i64 cr.u,.int .i64 cr.g] 64)) #[.int .i64 0,.string ⟨#[]⟩,.int .i64 0,.bool false] 176;rw[World.size_alloc] at Kd;have OK:=(aw.new w #[.int .i64 cr.u,.int .i64 cr.g] 64).old (.cells #[.int .i64 0,.string ⟨#[]⟩,.int .i64 0,.bool false] 176);have HPa:=Qf (fun w=>Cz path w (by omega));have HPt:=Qf (fun w=>qI path w hs);have G4:=Qf (fun w=>qG path w hs);have HH:=Qf h;have HK:=Qf hk;have hps:(bF path.data.toList).length≤100001:=by
  have h1:=iy path.data.toList;have h2:path.data.toList.length=path.size:=Array.length_toList;omega
 have lQ:=Qf (show S.path cr path f=if ej path≠0 then(gb,ej path) else S.eA cr f 8 1 (eD path.data.toList) (bF path.data.toList) from rfl);generalize S.path cr path f=Z at lQ⊢;generalize ej path=pe at HPa lQ;generalize eD path.data.toList=sl at G4 lQ;generalize bF path.data.toList=ps at HPt lQ hps;clear h hk;go_enter Tryz.func131,Tryz.ntmps131;go_upto_region 1 with fail;generalize (w.alloc (.cells #[.int .i64 cr.u,.int .i64 cr.g] 64)).alloc (.cells #[.int .i64 0,.string ⟨#[]⟩,.int .i64 0,.bool false] 176)=X0 at cH Kd OK⊢;have bP:=Qf cH;have kn:=Qf Kd;have BR:=Qf OK;clear cH Kd OK;go_wp2_with fail;refine(HPa.o _).mono ?_;rintro e w1 ⟨rfl,rfl⟩;have dM:=Qf (Qj X0);by_cases hpe:pe=0
 ·have eS:=Qf (lQ.o.trans (if_neg (by simpa using hpe)));have hpb:(pe != 0)=false:=by simpa using hpe
  clear hpe;go_wp2_with fail;refine(HPt.o _).mono ?_;rintro e w2 ⟨⟨pv,rfl,hO⟩,aS⟩;obtain⟨pa,pcap,rfl,-,-⟩:=hO.len;have HSa:=Qf (SA.uZ hO);have sU:=Qf aS;clear hO aS;go_wp2_with fail;refine(G4.o _).mono ?_;rintro e w3 ⟨rfl,bK⟩;have HSa3:=Qf (HSa.o.ak bK);have Hi:=Qf (au sU.o bK);clear bK;go_wp2_with fail
  go_loopw [11,12,13,14] (fun t11 t12 t13 t14 wr=>∃(at':Int) (l:List (List UInt8)) (must:Bool) (hp:Nat) (ta:Option Addr) (tl tc:Nat),t11=.slice ta tl tc∧t12=.bool must∧t13=.int .i64 at'∧t14=.int .i64 hp∧SA wr ta tl tc l∧hp≤8∧l.length≤100001+hp*4097∧Z=S.eA cr f (8-hp) at' must l∧Qi X0 wr) (fun t11 _ _ t14 _=>(8-(intOf t14).toNat)*10000+nZ t11)
  case atStart=>exact⟨1,ps,sl,0,pa,_,pcap,rfl,rfl,rfl,rfl,HSa3.o,by omega,by omega,eS.o,Hi.o⟩
  case round=>
   obtain⟨at',l,must,hp,ta,tl,tc,rfl,rfl,rfl,rfl,hS,MB,hll,hE,hb⟩:=hrel;have hln:=hS.len;have HS:=Qf hS;have HE:=Qf hE;have dM:=Qf hb;clear hS hE hb
   cases l with
   |nil=>
    obtain rfl:tl=0:=by simpa using hln.symm
    have bH:=Qf (HE.o.trans wK);obtain⟨fc,ff,fz⟩:=(kn.o.ak dM.o).facts;go_wp2_with (first|exact bodyPost_ret (aM (x:=⟨0,ByteArray.empty,at',true⟩) (e:=0) (kn.o.ak dM.o).cM rfl rfl) rfl ⟨by rw[bH.o],aB (bP.o.trans (dM.o.mono bP.o.size)) (Nat.le_succ _)⟩|exact bq (aM (x:=⟨0,ByteArray.empty,at',true⟩) (e:=0) (kn.o.ak dM.o).cM rfl rfl) ⟨by rw[bH.o],aB (bP.o.trans (dM.o.mono bP.o.size)) (Nat.le_succ _)⟩)
   |cons p l=>
    obtain⟨m,rfl⟩:∃m,tl=m+1:=⟨l.length,by simpa using hln.symm⟩;have hlm:l.length=m:=by simpa using hln
    have oR:=Qf hlm;obtain⟨b,off,rfl,hbl⟩:=HS.o.dL (Nat.succ_pos m);have hpc:wr.cell? ⟨b,off,none⟩=some (.string (str p)):=HS.o.cell rfl 0 (by simp);have K5:m+1≤tc:=HS.o.2.1;have K4:tc≤9223372036854775807:=HS.o.2.2.1;have BP:=Qf hll;have hm8:m≤200000:=by simp at hll;omega
    clear hln hlm hll;obtain⟨lb,hlb⟩:∃x:Bool,((m:Int)+1==1)=x:=⟨_,rfl⟩;have yR:=Qf (show lb=decide (l=[]) by
     rw[←hlb,←oR.o]
     cases l with
     |nil=>rfl
     |cons y l=>simp;omega)
    go_upto_region 7 with fail
    go_cut [11] (fun t11 wx=>∃(ta2:Option Addr) (tc2:Nat),t11=.slice ta2 m tc2∧SA wr ta2 m tc2 l∧wx=wr)
    case first=>
     by_cases h1:tc=1
     ·obtain rfl:m=0:=by omega
      subst h1;go_wp2_with fail;go_meet;exact⟨_,_,rfl,(show SA wr (some ⟨b,off,none⟩) 0 0 l from by have h:=HS.o.tail rfl;simpa using h),rfl⟩
     ·have M4:¬(tc:Int)=1:=by omega
      have yN:=Qf (show SA wr (some ⟨b,off+1,none⟩) m (tc-1) l from by have h:=HS.o.tail rfl;rw[if_neg h1] at h;exact h);go_wp2_with fail;go_meet;exact⟨_,_,rfl,yN.o,rfl⟩
    case rest=>
     obtain⟨ta2,tc2,rfl,jr,rfl⟩:=hcut;have nW:=Qf jr;clear jr hpc hbl K5 K4 HS;have hbw:=bP.o.trans (dM.o.mono bP.o.size);obtain⟨da,dl,dc,hDE,hG⟩:=ly HH.o at';have HG:=Qf (hG wc hbw);have HDE:=Qf (hDE.l4 hbw (aa _));have ji:=Qf (Ie S cr at' p);have hpz:(str p).size=p.length:=cJ p;have PN:=Qf (show(str p).toList=p by rw[bG,dP]);unfold An.v at HG;have hmd:=Dr HK.o at';obtain⟨d,hd⟩:∃d,S.bl at'=d:=⟨_,rfl⟩;rw[hd] at HG HDE ji hmd;clear hd hDE hG hbw;have mS:=Qf (fun w=>qJ cr d da dl dc 1 hmd (by omega) w);obtain⟨mb,hmb⟩:∃b,d.may cr 1=b:=⟨_,rfl⟩;rw[hmb] at mS ji;clear hmb hmd;unfold An.v at mS;go_wp2_with fail;refine HG.o.mono ?_;rintro e w4 ⟨rfl,cZ⟩;have aI:=aq (au dM.o cZ) (.cells #[.int .i64 d.no,.int .i64 d.dev,.int .i64 d.kind,.int .i64 d.mode,.int .i64 d.uid,.int .i64 d.gid,.int .i64 d.mtime,.int .i64 d.ctime,.int .i64 d.ao,.int .i64 d.up,.string d.data,.slice da dl dc] 149);have rC:=aw.new w4 #[.int .i64 d.no,.int .i64 d.dev,.int .i64 d.kind,.int .i64 d.mode,.int .i64 d.uid,.int .i64 d.gid,.int .i64 d.mtime,.int .i64 d.ctime,.int .i64 d.ao,.int .i64 d.up,.string d.data,.slice da dl dc] 149;have bU:=aq cZ (.cells #[.int .i64 d.no,.int .i64 d.dev,.int .i64 d.kind,.int .i64 d.mode,.int .i64 d.uid,.int .i64 d.gid,.int .i64 d.mtime,.int .i64 d.ctime,.int .i64 d.ao,.int .i64 d.up,.string d.data,.slice da dl dc] 149);go_upto_region 9 with fail;generalize w4.alloc _=X at aI rC bU⊢
     replace dM:=Qf aI
     have yN:=Qf (nW.o.ak bU);have P5:=Qf (HDE.o.ak bU);have KF:=Qf rC;obtain⟨dcc,dcf,dcz⟩:=rC.facts;clear cZ aI rC bU nW HDE HG;by_cases gD:d.kind=1
     ·have q1:(d.kind != 1)=false:=by simpa using gD
      have q1':(d.kind==1)=true:=by simpa using gD
      have mM:=Qf (ji.o.trans (if_neg (by simpa using gD)));obtain⟨cc,cf,cz⟩:=(BR.o.ak dM.o).facts;clear gD;go_wp2_with fail;refine(mS.o _).mono ?_;rintro e w5 ⟨rfl,bU⟩;have hC5:=au dM.o bU
      replace dM:=Qf hC5
      have sN:=Qf (yN.o.ak bU);have HDE5:=Qf (P5.o.ak bU);have Ak:=KF.o.ak bU;have HD5:=Qf Ak;clear dcc dcf dcz cc cf cz;obtain⟨dcc,dcf,dcz⟩:=Ak.facts;clear bU hC5 Ak yN P5 KF;have hw5:=bP.o.trans (dM.o.mono bP.o.size)
      cases mb with
      |false=>
       have bH:=Qf (HE.o.trans (mZ (by rw[mM.o,if_pos rfl];decide)));rw[mM.o,if_pos rfl] at bH;obtain⟨fc,ff,fz⟩:=(kn.o.ak dM.o).facts;go_wp2_with (first|exact bodyPost_ret (aM (x:=gb) (e:=6) (kn.o.ak dM.o).cM rfl rfl) rfl ⟨by rw[bH.o],aB (bP.o.trans (dM.o.mono bP.o.size)) (Nat.le_succ _)⟩|exact bq (aM (x:=gb) (e:=6) (kn.o.ak dM.o).cM rfl rfl) ⟨by rw[bH.o],aB (bP.o.trans (dM.o.mono bP.o.size)) (Nat.le_succ _)⟩)
      |true=>
       replace mM:=Qf (mM.o.trans (if_neg (by simp)))
       by_cases hpp:p=[46,46]
       ·have sk:=Qf (mM.o.trans (if_pos hpp));have hpb:((str p).toList==[46,46])=true:=by rw[PN.o,hpp];rfl
        have HAb:=Qf (zS (HH.o.ak hw5) HK.o at');have bH:=Qf (HE.o.trans (uH (by rw[sk.o]) hpp));rw[sk.o] at bH;clear hpp hw5;go_wp2_with fail;refine HAb.o.mono ?_;rintro e w6 ⟨rfl,fo⟩;have L6:=Qf (sN.o.ak fo);have HC6:=Qf (au dM.o fo);clear fo dcc dcf dcz;go_wp2_with fail;go_roundw
        case measure=>simp[intOf,nZ]
        case rel=>exact⟨_,l,must,hp,ta2,m,tc2,rfl,rfl,rfl,rfl,L6.o,MB,by have:=BP.o;simp at this;omega,bH.o,HC6.o⟩
       ·have sk:=Qf (mM.o.trans (if_neg hpp));have hpb:((str p).toList==[46,46])=false:=by rw[PN.o];simpa using hpp
        have G7:=Qf hpp;clear hpp;by_cases Jq:255<p.length
        ·have bH:=Qf (HE.o.trans (mZ (by rw[sk.o,if_pos Jq];decide)));rw[sk.o,if_pos Jq] at bH;have Pm:(255:Int)<((str p).size:Int):=by rw[hpz];omega
         obtain⟨fc,ff,fz⟩:=(kn.o.ak dM.o).facts;go_wp2_with (first|exact bodyPost_ret (aM (x:=gb) (e:=13) (kn.o.ak dM.o).cM rfl rfl) rfl ⟨by rw[bH.o],aB (bP.o.trans (dM.o.mono bP.o.size)) (Nat.le_succ _)⟩|exact bq (aM (x:=gb) (e:=13) (kn.o.ak dM.o).cM rfl rfl) ⟨by rw[bH.o],aB (bP.o.trans (dM.o.mono bP.o.size)) (Nat.le_succ _)⟩)
        ·have iO:=Qf (sk.o.trans (if_neg Jq));have Pm:¬(255:Int)<((str p).size:Int):=by rw[hpz];omega
         have Mm:=Qf (od d.ay da dl dc (str p) w5 HDE5.o);obtain⟨ef,hef⟩:∃x,aF d.ay (str p)=x:=⟨_,rfl⟩;rw[hef] at iO Mm;have pO:=Qf (fun w1 hb=>tq (HH.o.ak (w':=w1) hb) ef);obtain⟨ov,hov⟩:∃x,S.aC ef=x:=⟨_,rfl⟩;rw[hov] at iO pO;obtain⟨na,nl,nc,-,hGn⟩:=ly HH.o ov;have hnz:=BG HK.o ov;have yT:=Qf hGn;unfold An.v at yT;clear Jq hef hov hGn hw5;go_wp2_with fail;refine Mm.o.mono ?_;rintro e w6 ⟨rfl,fo⟩;have Dp:=au dM.o fo
         replace dM:=Qf Dp
         have L6:=Qf (sN.o.ak fo);have Ka:=bP.o.trans (Dp.mono bP.o.size);clear fo Dp sN dcc dcf dcz;go_wp2_with fail;refine(pO.o _ Ka).mono ?_;rintro e w7 ⟨rfl,rfl⟩;go_wp2_with fail;refine(yT.o _ Ka).mono ?_;rintro e w8 ⟨rfl,mQ⟩;obtain⟨n,hn⟩:∃n,S.bl ov=n:=⟨_,rfl⟩;rw[hn] at hnz⊢;have hC8:=aq (au dM.o mQ) (.cells #[.int .i64 n.no,.int .i64 n.dev,.int .i64 n.kind,.int .i64 n.mode,.int .i64 n.uid,.int .i64 n.gid,.int .i64 n.mtime,.int .i64 n.ctime,.int .i64 n.ao,.int .i64 n.up,.string n.data,.slice na nl nc] 149);have hn8:=aw.new w8 #[.int .i64 n.no,.int .i64 n.dev,.int .i64 n.kind,.int .i64 n.mode,.int .i64 n.uid,.int .i64 n.gid,.int .i64 n.mtime,.int .i64 n.ctime,.int .i64 n.ao,.int .i64 n.up,.string n.data,.slice na nl nc] 149;have lF:=aq mQ (.cells #[.int .i64 n.no,.int .i64 n.dev,.int .i64 n.kind,.int .i64 n.mode,.int .i64 n.uid,.int .i64 n.gid,.int .i64 n.mtime,.int .i64 n.ctime,.int .i64 n.ao,.int .i64 n.up,.string n.data,.slice na nl nc] 149);go_upto_region 18 with fail;generalize w8.alloc _=Y at hC8 hn8 lF⊢
         replace dM:=Qf hC8
         have Nk:=Qf (L6.o.ak lF);obtain⟨ncc,ncf,ncz⟩:=hn8.facts;have HN9:=Qf hn8;clear mQ hC8 hn8 lF L6 Ka yT pO Mm mS;have HHn:=Qf hn;clear hn
         cases hgn:S.get ov with
         |none=>
          rw[hgn] at hnz;have FE:(n.no==0)=true:=hnz;have GC:=Qf (show S.get (S.step cr at' p).1=none by rw[iO.o];exact hgn);clear hgn hnz
          cases lb with
          |true=>
           have eR:l=[]:=of_decide_eq_true yR.o.symm;have bH:=Qf (HE.o.trans (wL (by rw[iO.o]) G7.o GC.o eR));obtain⟨fc,ff,fz⟩:=(kn.o.ak dM.o).facts;go_wp2_with (first|exact bodyPost_ret (aM (x:=⟨at',str p,0,must⟩) (e:=0) (kn.o.ak dM.o).cM rfl rfl) rfl ⟨by rw[bH.o],aB (bP.o.trans (dM.o.mono bP.o.size)) (Nat.le_succ _)⟩|exact bq (aM (x:=⟨at',str p,0,must⟩) (e:=0) (kn.o.ak dM.o).cM rfl rfl) ⟨by rw[bH.o],aB (bP.o.trans (dM.o.mono bP.o.size)) (Nat.le_succ _)⟩)
          |false=>
           have eR:l≠[]:=of_decide_eq_false yR.o.symm;have bH:=Qf (HE.o.trans (tj (by rw[iO.o]) G7.o GC.o eR));obtain⟨fc,ff,fz⟩:=(kn.o.ak dM.o).facts;go_wp2_with (first|exact bodyPost_ret (aM (x:=gb) (e:=5) (kn.o.ak dM.o).cM rfl rfl) rfl ⟨by rw[bH.o],aB (bP.o.trans (dM.o.mono bP.o.size)) (Nat.le_succ _)⟩|exact bq (aM (x:=gb) (e:=5) (kn.o.ak dM.o).cM rfl rfl) ⟨by rw[bH.o],aB (bP.o.trans (dM.o.mono bP.o.size)) (Nat.le_succ _)⟩)
         |some n2=>
          have hnn:n2=n:=by rw[←HHn.o,dE hgn]
          subst hnn;rw[hgn] at hnz;have FE:(n2.no==0)=false:=hnz;have iW:=Qf (cj hgn);have Nj:=Qf (HK.o.get hgn).1.sy;have GC:=Qf (show S.get (S.step cr at' p).1=some n2 by rw[iO.o];exact hgn);clear hgn hnz;have sS:=Qf (show((n2.kind==3)&&(!lb||(must||f)))=decide (n2.kind=3∧(l≠[]∨must=true∨f=true)) by
           rw[yR.o];by_cases h1:n2.kind=3<;>by_cases h2:l=[]<;>cases must<;>cases f<;>simp[h1,h2])
          obtain⟨lk,hlk⟩:∃x,((n2.kind==3)&&(!lb||(must||f)))=x:=⟨_,rfl⟩;have Hlk:=Qf hlk;rw[hlk] at sS;go_upto_region 22 with fail
          go_cut [96] (fun t96 wx=>t96=.bool lk∧wx=Y)
          case first=>
           clear hlk
           cases gm:(n2.kind==3) with
           |false=>
            have:lk=false:=by rw[←Hlk.o,gm];rfl
            subst this;go_wp2_with fail;go_meet;exact⟨rfl,rfl⟩
           |true=>
            cases lb with
            |false=>
             have:lk=true:=by rw[←Hlk.o,gm];rfl
             subst this;go_wp2_with fail;go_meet;exact⟨rfl,rfl⟩
            |true=>
             cases must with
             |true=>
              have:lk=true:=by rw[←Hlk.o,gm];rfl
              subst this;go_wp2_with fail;go_meet;exact⟨rfl,rfl⟩
             |false=>
              have:lk=f:=by rw[←Hlk.o,gm];rfl
              subst this;go_wp2_with fail;go_meet;exact⟨rfl,rfl⟩
          case rest=>
           obtain⟨rfl,rfl⟩:=hcut;clear hlk
           cases lk with
           |true=>
            have nN:=Qf (of_decide_eq_true sS.o.symm);have Ou:n2.kind=3:=nN.o.1;have hsz:=Nj.o Ou;have hstep:(S.step cr at' p).2=0:=by rw[iO.o]
            have nL:=Qf hstep;clear Ou hstep;by_cases hp9:hp=8
            ·subst hp9;have bH:=Qf (HE.o.trans (th nL.o G7.o GC.o nN.o));obtain⟨fc,ff,fz⟩:=(kn.o.ak dM.o).facts;go_wp2_with (first|exact bodyPost_ret (aM (x:=gb) (e:=12) (kn.o.ak dM.o).cM rfl rfl) rfl ⟨by rw[bH.o],aB (bP.o.trans (dM.o.mono bP.o.size)) (Nat.le_succ _)⟩|exact bq (aM (x:=gb) (e:=12) (kn.o.ak dM.o).cM rfl rfl) ⟨by rw[bH.o],aB (bP.o.trans (dM.o.mono bP.o.size)) (Nat.le_succ _)⟩)
            ·have hp7:¬(8:Int)<(hp:Int)+1:=by omega
             have hq8:8-hp=(8-(hp+1))+1:=by omega
             rw[hq8] at HE;by_cases hde:n2.data.data.toList=[]
             ·have bH:=Qf (HE.o.trans (tg nL.o G7.o GC.o nN.o hde));have hde1:n2.data.toList=[]:=by rw[bG];exact hde
              clear hde;obtain⟨fc,ff,fz⟩:=(kn.o.ak dM.o).facts;go_wp2_with (first|exact bodyPost_ret (aM (x:=gb) (e:=5) (kn.o.ak dM.o).cM rfl rfl) rfl ⟨by rw[bH.o],aB (bP.o.trans (dM.o.mono bP.o.size)) (Nat.le_succ _)⟩|exact bq (aM (x:=gb) (e:=5) (kn.o.ak dM.o).cM rfl rfl) ⟨by rw[bH.o],aB (bP.o.trans (dM.o.mono bP.o.size)) (Nat.le_succ _)⟩)
             ·have bH:=Qf (HE.o.trans (ti nL.o G7.o GC.o nN.o hde));have hde1:n2.data.toList.isEmpty=false:=by rw[bG];simpa using hde
              have hpos:0<n2.data.size:=by
               have h1:n2.data.data.toList.length=n2.data.size:=Array.length_toList;rcases Nat.eq_zero_or_pos n2.data.size with h0|h0
               ·exact absurd (List.eq_nil_of_length_eq_zero (by omega)) hde
               ·exact h0
              have KC:=Qf (show(n2.data.data.toList.head?=some 47)=(n2.data[0]=47) by
               have h1:n2.data.data.toList.head?=some n2.data[0]:=by
                rw[List.head?_eq_getElem?,List.getElem?_eq_getElem (by rw[Array.length_toList];exact hpos)];rfl
               rw[h1];simp)
              have JR:=Qf (fun w=>qI n2.data w (by omega));have PL:=Qf (fun w=>qG n2.data w (by omega));have sQ:=Qf (show(bF n2.data.data.toList).length≤4097 by
               have h1:=iy n2.data.data.toList;have h2:n2.data.data.toList.length=n2.data.size:=Array.length_toList;omega)
              clear hde;obtain⟨ps2,Oj⟩:∃x,bF n2.data.data.toList=x:=⟨_,rfl⟩;obtain⟨sl2,Of⟩:∃x,eD n2.data.data.toList=x:=⟨_,rfl⟩;rw[Oj] at bH JR sQ;rw[Of] at bH PL;clear Oj Of;have hwrap:IntKind.i64.wrap ((hp:Int)+1)=(hp:Int)+1:=by rw[IntKind.wrap_i64];omega
              obtain⟨a2,ha2⟩:∃x,(if n2.data.data.toList.head?=some 47 then(1:Int) else at')=x:=⟨_,rfl⟩;obtain⟨m2,nS⟩:∃x,(if l=[] then must||sl2 else must)=x:=⟨_,rfl⟩;rw[ha2,nS] at bH;have p':=Qf nS;obtain⟨q47,Oh⟩:∃x,(((n2.data[0]:UInt8).toNat:Int)==47)=x:=⟨_,rfl⟩;have nP:=Qf (show a2=if q47=true then(1:Int) else at' by
               rw[←ha2,←Oh];by_cases oB:n2.data[0]=47
               ·rw[if_pos (KC.o.mpr oB),if_pos (by rw[oB];rfl)]
               ·rw[if_neg (fun h=>oB (KC.o.mp h)),if_neg];simp only[beq_iff_eq];intro h;exact oB (by rw[lV];show(n2.data[0]:UInt8).toNat=47;omega))
              clear ha2 nS;go_upto_region 28 with fail
              go_cut [109] (fun t109 wx=>t109=.bool q47∧wx=wc)
              case first=>
               go_wp2_with fail;go_meet;exact⟨rfl,rfl⟩
              case rest=>
               obtain⟨rfl,hwc⟩:=hcut;subst hwc;clear Oh
               go_step
               go_cut [13] (fun t13 wx=>t13=.int .i64 a2∧wx=wc)
               case first=>
                cases q47 with
                |true=>
                 obtain rfl:a2=1:=nP.o;go_wp2_with fail;go_meet;exact⟨rfl,rfl⟩
                |false=>
                 obtain rfl:a2=at':=nP.o;go_wp2_with fail;go_meet;exact⟨rfl,rfl⟩
               case rest=>
                obtain⟨rfl,hwc⟩:=hcut;subst hwc;clear nP
                cases must with
                |true=>
                 have pU:m2=true:=by rw[←p'.o];split<;>rfl
                 subst pU;go_wp2_with fail;refine(JR.o _).mono ?_;rintro e w12 ⟨⟨pv2,rfl,xV⟩,ky⟩;obtain⟨a',n',c',W,hrun,pY,hab,mI⟩:=uI xV (Nk.o.ak ky) (by have h1:=sQ.o;have h2:=BP.o;simp at h2;omega) ky.size;have HR:=Qf hrun;have hnl:=pY.len;rw[List.length_append,oR.o] at hnl;have HX:=Qf (ag pY (au dM.o (ky.trans mI)));clear xV ky hrun pY hab mI ncc ncf ncz;go_wp2_with (at_builtin;refine aL rfl rfl rfl rfl HR.o ?_);go_roundw
                 case measure=>have h1:=sQ.o;simp[intOf,nZ];omega
                 case rel=>exact⟨_,ps2++l,_,hp+1,a',n',c',rfl,rfl,rfl,by go_num,HX.o.1,by omega,by have h1:=sQ.o;have h2:=BP.o;simp at h2;rw[List.length_append];omega,bH.o,HX.o.2⟩
                |false=>
                 cases lb with
                 |false=>
                  have eR:l≠[]:=of_decide_eq_false yR.o.symm;have pU:m2=false:=by rw[←p'.o,if_neg eR]
                  subst pU;clear eR;go_wp2_with fail;refine(JR.o _).mono ?_;rintro e w12 ⟨⟨pv2,rfl,xV⟩,ky⟩;obtain⟨a',n',c',W,hrun,pY,hab,mI⟩:=uI xV (Nk.o.ak ky) (by have h1:=sQ.o;have h2:=BP.o;simp at h2;omega) ky.size;have HR:=Qf hrun;have hnl:=pY.len;rw[List.length_append,oR.o] at hnl;have HX:=Qf (ag pY (au dM.o (ky.trans mI)));clear xV ky hrun pY hab mI ncc ncf ncz;go_wp2_with (at_builtin;refine aL rfl rfl rfl rfl HR.o ?_);go_roundw
                  case measure=>have h1:=sQ.o;simp[intOf,nZ];omega
                  case rel=>exact⟨_,ps2++l,_,hp+1,a',n',c',rfl,rfl,rfl,by go_num,HX.o.1,by omega,by have h1:=sQ.o;have h2:=BP.o;simp at h2;rw[List.length_append];omega,bH.o,HX.o.2⟩
                 |true=>
                  have eR:l=[]:=of_decide_eq_true yR.o.symm;have pU:m2=sl2:=by rw[←p'.o,if_pos eR,Bool.false_or]
                  subst pU;clear eR;go_wp2_with fail;refine(PL.o _).mono ?_;rintro e w11 ⟨rfl,At⟩
                  replace dM:=Qf (au dM.o At)
                  replace Nk:=Qf (Nk.o.ak At)
                  have On:=HN9.o.ak At;clear At ncc ncf ncz;obtain⟨ncc,ncf,ncz⟩:=On.facts;clear On;go_wp2_with fail;refine(JR.o _).mono ?_;rintro e w12 ⟨⟨pv2,rfl,xV⟩,ky⟩;obtain⟨a',n',c',W,hrun,pY,hab,mI⟩:=uI xV (Nk.o.ak ky) (by have h1:=sQ.o;have h2:=BP.o;simp at h2;omega) ky.size;have HR:=Qf hrun;have hnl:=pY.len;rw[List.length_append,oR.o] at hnl;have HX:=Qf (ag pY (au dM.o (ky.trans mI)));clear xV ky hrun pY hab mI ncc ncf ncz;go_wp2_with (at_builtin;refine aL rfl rfl rfl rfl HR.o ?_);go_roundw
                  case measure=>have h1:=sQ.o;simp[intOf,nZ];omega
                  case rel=>exact⟨_,ps2++l,_,hp+1,a',n',c',rfl,rfl,rfl,by go_num,HX.o.1,by omega,by have h1:=sQ.o;have h2:=BP.o;simp at h2;rw[List.length_append];omega,bH.o,HX.o.2⟩
           |false=>
            have nN:=Qf (of_decide_eq_false sS.o.symm);have hstep:(S.step cr at' p).2=0:=by rw[iO.o]
            have nL:=Qf hstep;clear hstep;by_cases ij:n2.kind=1
            ·have q2:(n2.kind != 1)=false:=by simpa using ij
             have HD:=Qf (show¬(n2.kind≠1∧(l≠[]∨must=true)) from fun h=>h.1 ij);clear ij
             cases lb with
             |true=>
              have eR:l=[]:=of_decide_eq_true yR.o.symm;have bH:=Qf (HE.o.trans (lp nL.o G7.o GC.o nN.o HD.o eR));rw[iO.o] at bH;have Ai:=iW.o;obtain⟨fc,ff,fz⟩:=(kn.o.ak dM.o).facts;go_wp2_with (first|exact bodyPost_ret (aM (x:=⟨at',str p,ov,must⟩) (e:=0) (kn.o.ak dM.o).cM rfl rfl) rfl ⟨by rw[bH.o],aB (bP.o.trans (dM.o.mono bP.o.size)) (Nat.le_succ _)⟩|exact bq (aM (x:=⟨at',str p,ov,must⟩) (e:=0) (kn.o.ak dM.o).cM rfl rfl) ⟨by rw[bH.o],aB (bP.o.trans (dM.o.mono bP.o.size)) (Nat.le_succ _)⟩)
             |false=>
              have eR:l≠[]:=of_decide_eq_false yR.o.symm;have bH:=Qf (HE.o.trans (Bg nL.o G7.o GC.o nN.o HD.o eR));rw[iO.o] at bH;have Ai:=iW.o;clear eR;go_wp2_with fail;go_roundw
              case measure=>simp[intOf,nZ]
              case rel=>exact⟨_,l,must,hp,ta2,m,tc2,rfl,rfl,rfl,rfl,Nk.o,MB,by have:=BP.o;simp at this;omega,bH.o,dM.o⟩
            ·have q2:(n2.kind != 1)=true:=by simpa using ij
             have HK2:=Qf ij;clear ij
             cases lb with
             |false=>
              have eR:l≠[]:=of_decide_eq_false yR.o.symm;have bH:=Qf (HE.o.trans (lq nL.o G7.o GC.o nN.o ⟨HK2.o,.inl eR⟩));clear eR;obtain⟨fc,ff,fz⟩:=(kn.o.ak dM.o).facts;go_wp2_with (first|exact bodyPost_ret (aM (x:=gb) (e:=9) (kn.o.ak dM.o).cM rfl rfl) rfl ⟨by rw[bH.o],aB (bP.o.trans (dM.o.mono bP.o.size)) (Nat.le_succ _)⟩|exact bq (aM (x:=gb) (e:=9) (kn.o.ak dM.o).cM rfl rfl) ⟨by rw[bH.o],aB (bP.o.trans (dM.o.mono bP.o.size)) (Nat.le_succ _)⟩)
             |true=>
              have eR:l=[]:=of_decide_eq_true yR.o.symm
              cases must with
              |true=>
               have bH:=Qf (HE.o.trans (lq nL.o G7.o GC.o nN.o ⟨HK2.o,.inr rfl⟩));clear eR;obtain⟨fc,ff,fz⟩:=(kn.o.ak dM.o).facts;go_wp2_with (first|exact bodyPost_ret (aM (x:=gb) (e:=9) (kn.o.ak dM.o).cM rfl rfl) rfl ⟨by rw[bH.o],aB (bP.o.trans (dM.o.mono bP.o.size)) (Nat.le_succ _)⟩|exact bq (aM (x:=gb) (e:=9) (kn.o.ak dM.o).cM rfl rfl) ⟨by rw[bH.o],aB (bP.o.trans (dM.o.mono bP.o.size)) (Nat.le_succ _)⟩)
              |false=>
               have bH:=Qf (HE.o.trans (lp nL.o G7.o GC.o nN.o (fun h=>h.2.elim (fun h=>h eR) (fun h=>by cases h)) eR));rw[iO.o] at bH;have Ai:=iW.o;clear eR;obtain⟨fc,ff,fz⟩:=(kn.o.ak dM.o).facts;go_wp2_with (first|exact bodyPost_ret (aM (x:=⟨at',str p,ov,false⟩) (e:=0) (kn.o.ak dM.o).cM rfl rfl) rfl ⟨by rw[bH.o],aB (bP.o.trans (dM.o.mono bP.o.size)) (Nat.le_succ _)⟩|exact bq (aM (x:=⟨at',str p,ov,false⟩) (e:=0) (kn.o.ak dM.o).cM rfl rfl) ⟨by rw[bH.o],aB (bP.o.trans (dM.o.mono bP.o.size)) (Nat.le_succ _)⟩)
     ·have q1:(d.kind != 1)=true:=by simpa using gD
      have q1':(d.kind==1)=false:=by simpa using gD
      have mM:=Qf (ji.o.trans (if_pos (by simpa using gD)));have bH:=Qf (HE.o.trans (mZ (by rw[mM.o];decide)));rw[mM.o] at bH;clear gD;obtain⟨fc,ff,fz⟩:=(kn.o.ak dM.o).facts;go_wp2_with (first|exact bodyPost_ret (aM (x:=gb) (e:=9) (kn.o.ak dM.o).cM rfl rfl) rfl ⟨by rw[bH.o],aB (bP.o.trans (dM.o.mono bP.o.size)) (Nat.le_succ _)⟩|exact bq (aM (x:=gb) (e:=9) (kn.o.ak dM.o).cM rfl rfl) ⟨by rw[bH.o],aB (bP.o.trans (dM.o.mono bP.o.size)) (Nat.le_succ _)⟩)
 ·have eS:=Qf (lQ.o.trans (if_pos hpe));have hpb:(pe != 0)=true:=by simpa using hpe
  clear hpe;obtain⟨fc,ff,fz⟩:=(kn.o.ak dM.o).facts;go_wp2_with (first|exact bodyPost_ret (aM (x:=gb) (e:=pe) (kn.o.ak dM.o).cM rfl rfl) rfl ⟨by rw[eS.o],aB (bP.o.trans (dM.o.mono bP.o.size)) (Nat.le_succ _)⟩|exact bq (aM (x:=gb) (e:=pe) (kn.o.ak dM.o).cM rfl rfl) ⟨by rw[eS.o],aB (bP.o.trans (dM.o.mono bP.o.size)) (Nat.le_succ _)⟩)
theorem mj(h:aN w pf R S){N:Nat}(hk:ax S N)(path:ByteArray)(hs:path.size≤100000)(f:Bool) :
  Calls Tryz.prog 131 #[.pointer (some ⟨pf,0,none⟩),.agg #[.int .i64 0,.int .i64 0],.string path,.bool f] w fun e w'=>e=.returned (.tuple #[(S.path bM path f).1.v,.int .i64 (S.path bM path f).2])∧Qi w w':=zM h hk bM path hs f
end
end
section
open Go.RowKit
section
variable{w w':World}{pf:Nat}{R:Rf}{S:Fs}
end
end
section
open Go
section
variable{P:Program}{ops:Array Oper}{Q:Exit→Act→World→Prop}{md:Region.Mode}{S:World→Prop}
theorem bB(i d:Nat){oi:Oper}{fuel:Nat}{listed:Array Bool}{tmps:Array Value}{defers:List Deferred}{w:World}(hr:Region.ready md ops listed=[i])(hi:ops[i]?=some oi)(hd:oi.dst=some d)
  (hw:Region.wanted oi (yielded ops tmps)=true) {f:FuncId} {args:Array Value} (he:(execOp (Act.eval {tmps,defers}) oi).run P w=.ok (.enter f args) w) {R:Value→World→Prop}
  (hc:Calls P f args w fun e w'=>∃v,e=.returned v∧R v w') (hS:∀v w',R v w'→S w')
  (h:∀v w',R v w'→wpAnyH P md ops Q S fuel (listed.setIfInBounds i true) {tmps:=tmps.setIfInBounds d v,defers} w'):wpAnyH P md ops Q S (fuel+1) listed {tmps,defers} w:=by
 refine wpAnyH_ready hr (by simp) (AllReadyH.cons hi (fun K hK=>?_) AllReadyH.nil);rw[if_pos hw];unfold Oper.wp;rw[he];refine hc.mono ?_;rintro e w' ⟨v,rfl,hR⟩;have:=h v w' hR;refine hK.out _ _ (hS v w' hR) (fun _=>?_);rw[hd];exact this
end
end
section
open Go
section
variable{P:Program}{ops:Array Oper}{Q:Exit→Act→World→Prop}{md:Region.Mode}{S:World→Prop}
theorem sA(i di j dj:Nat){oi oj:Oper}{fuel:Nat}{listed:Array Bool}{tmps:Array Value}{defers:List Deferred}{w Wi:World}{vi:Value}(hr:Region.ready md ops listed=[i,j])(hi:ops[i]?=some oi)(hj:ops[j]?=some oj)
  (hdi:oi.dst=some di) (hdj:oj.dst=some dj) (hwi:Region.wanted oi (yielded ops tmps)=true) (hwj:Region.wanted oj (yielded ops tmps)=true)
  (hei:(execOp (Act.eval {tmps,defers}) oi).run P w=.ok (.value vi) Wi) (OV:S Wi) {f:FuncId} {args:Array Value} (hej:(execOp (Act.eval {tmps,defers}) oj).run P w=.ok (.enter f args) w) {R:Value→World→Prop}
  (hc:Calls P f args w fun e w'=>∃v,e=.returned v∧R v w') (OU:∀v w',R v w'→S w')
  (h1:wpAnyH P md ops Q S fuel (listed.setIfInBounds i true) {tmps:=tmps.setIfInBounds di vi,defers} Wi)
  (h2:∀v w',R v w'→wpAnyH P md ops Q S fuel (listed.setIfInBounds j true) {tmps:=tmps.setIfInBounds dj v,defers} w'):wpAnyH P md ops Q S (fuel+1) listed {tmps,defers} w:=by
 refine wpAnyH_ready hr (by simp) (AllReadyH.cons hi (fun K hK=>?_) (AllReadyH.cons hj (fun K hK=>?_) AllReadyH.nil))
 ·rw[if_pos hwi];unfold Oper.wp;rw[hei];refine hK.out _ _ OV (fun _=>?_);rw[hdi];exact h1
 ·rw[if_pos hwj];unfold Oper.wp;rw[hej];refine hc.mono ?_;rintro e w' ⟨v,rfl,hR⟩;have:=h2 v w' hR;refine hK.out _ _ (OU v w' hR) (fun _=>?_);rw[hdj];exact this
end
end
section
open Go
section
variable{P:Program}{ops:Array Oper}{md:Region.Mode}{l:Nat}{n:Nat}{Q:Exit→Act→World→Prop}
theorem CA{row:String}{args:Array Value}{w:World}{R:Value→World→Prop}(h:Rows P row args w R):RowsIn Fence.wide n P row args w R:=
 fun c cs _=>let⟨v,w',r,s⟩:=h c cs;⟨v,w',r,stepsIn_wide.2 s⟩
theorem C3{o:Oper}(hd:∀c,o.op≠.defer c){a:Act}{w:World}{K K':Act→World→Prop}(hK:∀a w,K a w→K' a w)(h:o.wp P a w K Q):o.wpIn (Fence.wide.inRound l) n P a w K' Q:=by
 unfold Oper.wp at h;unfold Oper.wpIn;refine⟨fun _ _=>trivial,?_⟩;rw[Fence.inRound_round,Oper.semAt_some l _ o hd];generalize (execOp a.eval o).run P w=r at *
 cases r with
 |ok m w'=>
  cases m with
  |value v=>exact hK _ _ h
  |skip=>exact hK _ _ h
  |defer d=>exact hK _ _ h
  |enter f args=>
   refine⟨fun h=>by simp[Fence.wide] at h,?_⟩;refine CallsIn.inRound l (callsIn_wide.2 (Calls.mono h fun e w'' he=>?_))
   cases e with
   |returned v=>exact hK _ _ he
   |panicked c=>exact he
   |outgrown=>exact he
  |row row args=>
   refine⟨fun h=>by simp[Fence.wide] at h,?_⟩;exact(CA h).mono fun v w'' hv=>hK _ _ hv
  |_=>exact h.elim
 |halt x w'=>
  cases x with
  |panic v=>exact h
  |_=>exact h.elim
theorem nG(hd:pS ops=true)(hno:¬LetsOut Q):∀(fuel:Nat) (listed:Array Bool) (a:Act) (w:World),wpAny P md ops Q fuel listed a w→wpAnyIn (Fence.wide.inRound l) n P md ops Q fuel listed a w
 |0,_,_,_,h=>h
 |fuel+1,listed,a,w,h=>by
  refine⟨h.1,fun i hi=>?_⟩;have h2:=h.2 i hi;unfold wpOp at h2;unfold wpOpIn
  cases ho:ops[i]? with
  |none=>rw[ho] at h2;exact nG hd hno fuel _ _ _ h2
  |some o=>
   rw[ho] at h2;simp only at h2⊢
   split
   ·rename_i hw;rw[if_pos hw] at h2;rcases h2 with h2|⟨-,h2⟩
    ·exact C3 (u0 hd ho) (fun a w h=>nG hd hno fuel _ a w h) h2
    ·exact absurd h2 hno
   ·rename_i hw;rw[if_neg hw] at h2;exact⟨fun _ _=>trivial,nG hd hno fuel _ _ _ h2⟩
theorem jU{S:World→Prop}{id:Nat}{a:Act}{w:World}(hm:P.follows .mixedOrders=true)(hd:pS ops=true)(hno:¬LetsOut Q)(hS:S w.drew)
  (h:S w.drew→wpAnyH P .any ops Q S ops.size (Array.replicate ops.size false) a w.drew):(Code.region id ops true).wpIn (Fence.wide.inRound l) n P Q a w:=
 wpIn_region_any hm (nG hd hno _ _ _ _ (wpAny_of_held _ _ _ _ (h hS)))
section
variable{S:World→Prop}{oi:Oper}{fuel:Nat}{listed:Array Bool}{tmps:Array Value}{defers:List Deferred}{w W:World}{v:Value}
theorem fU(i d:Nat)(hr:Region.ready md ops listed=[i])(hi:ops[i]?=some oi)(hd:oi.dst=some d)(hw:Region.wanted oi (yielded ops tmps)=true)
  (he:(execOp (Act.eval {tmps,defers}) oi).run P w=.ok (.value v) W) (hS:S W) (h:wpAnyH P md ops Q S fuel (listed.setIfInBounds i true) {tmps:=tmps.setIfInBounds d v,defers} W):wpAnyH P md ops Q S (fuel+1) listed {tmps,defers} w:=by
 refine wpAnyH_ready hr (by simp) (AllReadyH.cons hi (fun K hK=>?_) AllReadyH.nil);rw[if_pos hw];unfold Oper.wp;rw[he];refine hK.out _ _ hS (fun _=>?_);rw[hd];exact h
theorem Ir(i di j dj:Nat){oj:Oper}{vj:Value}(hr:Region.ready md ops listed=[i,j])(hi:ops[i]?=some oi)(hj:ops[j]?=some oj)(hdi:oi.dst=some di)(hdj:oj.dst=some dj)
  (hwi:Region.wanted oi (yielded ops tmps)=true) (hwj:Region.wanted oj (yielded ops tmps)=true) {Wi:World}
  (hei:(execOp (Act.eval {tmps,defers}) oi).run P w=.ok (.value v) Wi) (hej:(execOp (Act.eval {tmps,defers}) oj).run P w=.ok (.value vj) W) (OV:S Wi) (OU:S W)
  (h1:wpAnyH P md ops Q S fuel (listed.setIfInBounds i true) {tmps:=tmps.setIfInBounds di v,defers} Wi) (h2:wpAnyH P md ops Q S fuel (listed.setIfInBounds j true) {tmps:=tmps.setIfInBounds dj vj,defers} W) :
  wpAnyH P md ops Q S (fuel+1) listed {tmps,defers} w:=by
 refine wpAnyH_ready hr (by simp) (AllReadyH.cons hi (fun K hK=>?_) (AllReadyH.cons hj (fun K hK=>?_) AllReadyH.nil))
 ·rw[if_pos hwi];unfold Oper.wp;rw[hei];refine hK.out _ _ OV (fun _=>?_);rw[hdi];exact h1
 ·rw[if_pos hwj];unfold Oper.wp;rw[hej];refine hK.out _ _ OU (fun _=>?_);rw[hdj];exact h2
theorem uL(i d:Nat){y r:Value}{s x:Operand}{t:TypeId}(hr:Region.ready md ops listed=[i])(hi:ops[i]?=some oi)(hd:oi.dst=some d)
  (hgd:oi.guard=none) (ho:oi.op=.call {callee:=.builtin .append,args:=#[s,x],argTypes:=#[t,t]}) (hs:(Act.eval {tmps,defers}) s=v) (hx:(Act.eval {tmps,defers}) x=y)
  (hrun:(Builtin.append_ #[t,t] oi.type #[v,y]).run P w=.ok r W) (hS:S W)
  (h:wpAnyH P md ops Q S fuel (listed.setIfInBounds i true) {tmps:=tmps.setIfInBounds d r,defers} W):wpAnyH P md ops Q S (fuel+1) listed {tmps,defers} w:=by
 refine fU i d hr hi hd (by simp[Region.wanted,hgd]) ?_ hS h;unfold execOp;simp only[ho,resolve,invoke,builtin,Sem.run_bind,Sem.run_pure,Result.andThen_ok,List.map_toArray,List.map_cons,List.map_nil,hs,hx,hrun]
theorem dC(i:Nat)(hr:Region.ready md ops listed=[i])(hi:ops[i]?=some oi)(hd:oi.dst=none)(hw:Region.wanted oi (yielded ops tmps)=true)
  (he:(execOp (Act.eval {tmps,defers}) oi).run P w=.ok (.skip) W) (hS:S W) (h:wpAnyH P md ops Q S fuel (listed.setIfInBounds i true) {tmps,defers} W):wpAnyH P md ops Q S (fuel+1) listed {tmps,defers} w:=by
 refine wpAnyH_ready hr (by simp) (AllReadyH.cons hi (fun K hK=>?_) AllReadyH.nil);rw[if_pos hw];unfold Oper.wp;rw[he];refine hK.out _ _ hS (fun _=>?_);rw[hd];exact h
end
end
end
section
open Go.RowKit
section
variable{P:Program}{ops:Array Oper}{Q:Exit→Act→World→Prop}{md:Region.Mode}{S:World→Prop}
theorem fI(j dj i di:Nat){oi oj:Oper}{fuel:Nat}{listed:Array Bool}{tmps:Array Value}{defers:List Deferred}{w Wi:World}{vi:Value}(hr:Region.ready md ops listed=[j,i])(hi:ops[i]?=some oi)(hj:ops[j]?=some oj)
  (hdi:oi.dst=some di) (hdj:oj.dst=some dj) (hwi:Region.wanted oi (yielded ops tmps)=true) (hwj:Region.wanted oj (yielded ops tmps)=true)
  (hei:(execOp (Act.eval {tmps,defers}) oi).run P w=.ok (.value vi) Wi) (OV:S Wi) {f:FuncId} {args:Array Value} (hej:(execOp (Act.eval {tmps,defers}) oj).run P w=.ok (.enter f args) w) {R:Value→World→Prop}
  (hc:Calls P f args w fun e w'=>∃v,e=.returned v∧R v w') (OU:∀v w',R v w'→S w')
  (h1:wpAnyH P md ops Q S fuel (listed.setIfInBounds i true) {tmps:=tmps.setIfInBounds di vi,defers} Wi)
  (h2:∀v w',R v w'→wpAnyH P md ops Q S fuel (listed.setIfInBounds j true) {tmps:=tmps.setIfInBounds dj v,defers} w'):wpAnyH P md ops Q S (fuel+1) listed {tmps,defers} w:=by
 refine wpAnyH_ready hr (by simp) (AllReadyH.cons hj (fun K hK=>?_) (AllReadyH.cons hi (fun K hK=>?_) AllReadyH.nil))
 ·rw[if_pos hwj];unfold Oper.wp;rw[hej];refine hc.mono ?_;rintro e w' ⟨v,rfl,hR⟩;have:=h2 v w' hR;refine hK.out _ _ (OU v w' hR) (fun _=>?_);rw[hdj];exact this
 ·rw[if_pos hwi];unfold Oper.wp;rw[hei];refine hK.out _ _ OV (fun _=>?_);rw[hdi];exact h1
end
end
section
open Go
section
variable{P:Program}{ops:Array Oper}{Q:Exit→Act→World→Prop}{md:Region.Mode}{S:World→Prop}
def uB(md:Region.Mode)(ops:Array Oper):List (Nat×Nat)→Array Bool→Bool
 | [],_=>true
 |(i,d)::l,listed=>(match ops[i]? with|some o=>decide (o.dst=some d)|none=>false)&&Region.free md ops listed i&&(Region.ready md ops listed).contains i&&uB md ops l (listed.setIfInBounds i true)
def zv:List (Nat×Nat)→Array Bool→Array Bool
 | [],x=>x
 |(i,_)::l,x=>zv l (x.setIfInBounds i true)
def uk(P:Program)(ops:Array Oper)(S:World→Prop)(defers:List Deferred):List (Nat×Nat)→Array Value→(Array Value→Prop)→Prop
 | [],t,K=>K t
 |(i,d)::l,t,K=>∃oi v,ops[i]?=some oi∧((Region.wanted oi (yielded ops t)=true∧∀w,S w→(execOp (Act.eval {tmps:=t,defers}) oi).run P w=.ok (.value v) w)∨(Region.wanted oi (yielded ops t)=false∧v=undef))∧uk P ops S defers l (t.setIfInBounds d v) K
theorem aE{defers:List Deferred}{i d:Nat}{l:List (Nat×Nat)}{t:Array Value}{K:Array Value→Prop}{oi:Oper}{v:Value}(h0:ops[i]?=some oi)(hw:Region.wanted oi (yielded ops t)=true)
  (hy:∀w,S w→(execOp (Act.eval {tmps:=t,defers}) oi).run P w=.ok (.value v) w) (h:uk P ops S defers l (t.setIfInBounds d v) K):uk P ops S defers ((i,d)::l) t K:=⟨oi,v,h0,.inl ⟨hw,hy⟩,h⟩
theorem aJ{defers:List Deferred}{t:Array Value}{K:Array Value→Prop}(h:K t):uk P ops S defers [] t K:=h
theorem qM(hs:Region.noSelect ops=true)(hQ:∀c a (d:Nat) v w,Q (.panic c) (Act.put a (some d) v) w→Q (.panic c) a w){defers:List Deferred}{w:World}(hS:S w){fuel:Nat} :
  ∀(l:List (Nat×Nat)) (listed:Array Bool) (t:Array Value),uB md ops l listed=true→uk P ops S defers l t (fun t'=>wpAnyH P md ops Q S fuel (zv l listed) {tmps:=t',defers} w)→wpAnyH P md ops Q S (fuel+l.length) listed {tmps:=t,defers} w
 | [],_,_,_,h=>h
 |(i,d)::l,listed,t,hB,h=>by
  obtain⟨oi,v,h0,hv,h⟩:=h;simp only[uB,h0,Bool.and_eq_true,decide_eq_true_eq] at hB;obtain⟨⟨⟨hd,hf⟩,hr⟩,hB⟩:=hB;refine wpAnyH_take h0 hs hf hr (fun c a w=>?_) hv hS ?_
  ·rw[hd];exact hQ c a d v w
  ·rw[hd];exact qM hs hQ hS l _ _ hB h
theorem aK(n:Nat)(l:List (Nat×Nat)){listed:Array Bool}{tmps:Array Value}{defers:List Deferred}{w:World}{fuel:Nat}(hB:uB md ops l listed=true)(hs:Region.noSelect ops=true)(hn:l.length=n)
  (hQ:∀c a (d:Nat) v w,Q (.panic c) (Act.put a (some d) v) w→Q (.panic c) a w) (hS:S w) (h:uk P ops S defers l tmps (fun t'=>wpAnyH P md ops Q S fuel (zv l listed) {tmps:=t',defers} w)) :
  wpAnyH P md ops Q S (fuel+n) listed {tmps,defers} w:=by
 subst hn;exact qM hs hQ hS l listed tmps hB h
end
end
section
open Go.RowKit Go.Shelf
theorem OE.app2{w:World}{base:Nat}{v:Value}{es:List En}(h:OE w base v es)(x:En)(hl:es.length≤1000000)(hb:base≤w.heap.size) :
  ∃g cap W,(Builtin.append_ #[94,94] 94 #[v,.slice (some ⟨w.heap.size,0,none⟩) 1 1]).run Tryz.prog (w.alloc (.cells #[.string x.name,.int .i64 x.no] 98))=.ok (.slice (some ⟨g,0,none⟩) (es.length+1) cap) W∧
   OE W base (.slice (some ⟨g,0,none⟩) (es.length+1) cap) (es++[x])∧Mod (fun k=>v.ownBlock=some k) w W∧Below base w W:=by
 obtain⟨g,cap,W,h1,h2,h3,-⟩:=kK Tryz.underlying94 gj rfl (by decide) h (b9 x) rfl (by intro u hu;simp[b9] at hu;rcases hu with rfl|rfl<;>rfl) hl (by decide) hb;refine⟨g,cap,W,h1,?_,h3,h3.below (fun k hk=>(aD h hk).1) hb⟩;unfold OE;rw[List.length_append,List.length_singleton,List.flatMap_append];exact(by simpa using h2)
def Fs.seen(S:Fs)(e:En):En:=⟨e.name,S.aC e.no⟩
theorem rn(S:Fs)(c:Cr)(no:Int):S.cp false c no=if S.dY c no 1 4≠0 then([],S.dY c no 1 4) else((S.bw no).map S.seen,0):=by
 unfold Fs.cp;rw[if_neg (by decide)];rfl
section
variable{w w':World}{pf:Nat}{R:Rf}{S:Fs}
end
end
section
open Go.RowKit
theorem oI{N:Nat}{A B:World}{b:Nat}{vs:Array Value}{T:TypeId}(h:aw A b vs T)(ht:dN oO N eK A B):aw B b vs T:=ht.block b _ h (fun h=>h) (fun _=>rfl)
theorem yE{N M:Nat}{w0 A B:World}(h:Below M w0 A)(ht:dN oO N eK A B)(hN:M≤N)(hM:M≤w0.heap.size):Below M w0 B:=by
 refine⟨ht.os.trans h.os,ht.tape.trans h.tape,ht.output.trans h.output,ae h.size ht.size,fun k hk=>?_⟩;obtain⟨o,ho⟩:∃o,w0.heap[k]?=some o:=⟨w0.heap[k]'(by omega),Array.getElem?_eq_getElem _⟩;have h1:=(h.block k hk).trans ho;rw[ht.block k o h1 (fun h=>h) (fun h=>by omega),ho]
end
section
open Go.RowKit Go.Shelf
attribute [local go_sem] Oper.semAt_some
def GS(B:Nat)(W:World)(ds:List Deferred):Prop:=∃Ds:List Nat,ds=Ds.map (fun D=>({target:=.collected D,args:=#[]}:Deferred))∧Ds.Nodup∧∀D∈Ds,B≤D∧W.heap[D]?=some (.deferred (some []))
theorem GS.nil(B:Nat)(W:World):GS B W []:=⟨[],rfl,List.Pairwise.nil,fun D h=>by cases h⟩
theorem rV{n:Nat}{fn:Func}{tmps:Array Value}{v:Value}{R:Ending→World→Prop}(hres:∀W,(results fn tmps).run Tryz.prog W=.ok v W) :
  ∀(Ds:List Nat) (W:World),Ds.Nodup→(∀D∈Ds,W.heap[D]?=some (.deferred (some [])))→(∀W',Mod (fun k=>k∈Ds) W W'→R (.returned v) W')→
   LeavesInM Fence.wide n Tryz.prog fn tmps R (Ds.map (fun D=>({target:=.collected D,args:=#[]}:Deferred))) .returning W
 | [],W,_,_,hR=>⟨v,hres W,hR W (Mod.refl _ _)⟩
 |D::Ds,W,hn,hD,hR=>by
  rw[List.nodup_cons] at hn;refine⟨by simp,.inl ⟨_,_,rfl,run_takeDeferred (hD D List.mem_cons_self),?_⟩⟩;refine rV hres Ds _ hn.2 (fun E hE=>?_) (fun W' hm=>hR W' ?_)
  ·have hne:E≠D:=by rintro rfl;exact hn.1 hE
   exact(World.putObj_heap_other hne).trans (hD E (List.mem_cons_of_mem _ hE))
  ·refine⟨hm.os,hm.tape,hm.output,ae (by simp) hm.size,fun k hk hnk=>?_⟩;have hne:k≠D:=fun e=>hnk (by rw[e];exact List.mem_cons_self);rw[hm.block k (by simpa using hk) (fun h=>hnk (List.mem_cons_of_mem _ h))];exact World.putObj_heap_other hne
section
variable{w w':World}{pf pw:Nat}{R:Rp}{pv:Value}{Y:Sy}
theorem Em{R:Rp}{S:Fs}(h:bm w pw R S)(k:Int):∃a ea el ec b,aA w ea el ec a.ay∧(S.get k=some a∧b=true∨(S.get k=none∧a=cS∧b=false))∧
  ∀w1,Qi w w1→Calls Tryz.prog 69 #[.pointer (some ⟨R.pt,0,none⟩),.int .i64 k] w1 fun e w'=>e=.returned (.tuple #[.agg #[.int .i64 a.no,.int .i64 a.dev,.int .i64 a.kind,.int .i64 a.mode,.int .i64 a.uid,.int .i64 a.gid,.int .i64 a.mtime,.int .i64 a.ctime,.int .i64 a.ao,.int .i64 a.up,.string a.data,.slice ea el ec],.bool b])∧Qi w1 w':=by
 cases hg:S.get k with
 |none=>exact⟨cS,none,0,0,false,aA.nil w,.inr ⟨rfl,rfl,rfl⟩,fun w1 hb=>fK (h.ak hb) hg⟩
 |some a=>
  obtain⟨ea,el,ec,he,hc⟩:=eV h hg;exact⟨a,ea,el,ec,true,he,.inl ⟨rfl,rfl⟩,hc⟩
theorem ym(a:Option Addr)(n c:Nat)(w:World) :
  Calls Tryz.prog 103 #[.slice a n c] w fun e w'=>e=.returned (.func (.func 145) #[] #[.pointer (some ⟨w.heap.size,0,none⟩)])∧w'=w.alloc (.cells #[.slice a n c] 94):=by
 go_enter Tryz.func103,Tryz.ntmps103;go_wp2_with fail;go_ret;exact⟨rfl,rfl⟩
end
end
section
open Go.RowKit
section
variable{w w':World}{pf pw:Nat}{R:Rp}{pv:Value}{Y:Sy}
theorem xC(h:bg w pf pw R pv Y){N:Nat}(hk:cE Y N)(hN:N≤900000)(u:Us)(dir:Int)(n:ByteArray)(hn:n.size≤9223372036854775807) :
  Calls Tryz.prog 100 #[.pointer (some ⟨pf,0,none⟩),.agg #[.int .i64 u.u,.int .i64 u.g,.string u.data],.int .i64 dir,.string n] w fun e w'=>
   e=.returned (.tuple #[.int .i64 (Y.dR u dir n).2.1,.int .i64 (Y.dR u dir n).2.2])∧gF w w' pf pw R pv (Y.dR u dir n).1:=by
 obtain⟨u,g,t⟩:=u;dsimp only;obtain⟨hX,aI⟩:=Qh w #[.int .i64 u,.int .i64 g,.string t] 27;have HC:=Qf (eP u g t);have HO:=Qf (fun w1 (av:Qi w w1)=>yv (h.ak av) hk.du.ok (by omega) u g t dir n);have HM:=Qf (fun w1 (av:Qi w w1)=>j0 (h.ak av) hk.du.ok (by omega) ⟨hk.c0,by have:=hk.cN;omega⟩ (by have:=hk.pl;omega) ⟨u,g⟩ dir n 448 hn);have HG:=Qf (fun w1 (av:Qi w w1)=>gF.of h av);have HR:=Qf (show Y.dR ⟨u,g,t⟩ dir n=if(Y.fs.fu Y.dead ⟨u,g⟩ dir n).2=0∧(Y.fs.fu Y.dead ⟨u,g⟩ dir n).1=0 then Y.op (fun S now=>S.aO ⟨u,g⟩ now dir n 448) else(Y,Y.fs.fu Y.dead ⟨u,g⟩ dir n) from rfl);generalize Y.dR ⟨u,g,t⟩ dir n=rd at HR⊢;generalize Y.fs.fu Y.dead ⟨u,g⟩ dir n=r at HR HO;generalize Y.op (fun S now=>S.aO ⟨u,g⟩ now dir n 448)=q at HR HM;obtain⟨no,e1⟩:=r;dsimp only at HR HO;clear h hk;go_enter Tryz.func100,Tryz.ntmps100;go_upto_region 1 with fail;generalize w.alloc _=W0 at hX aI⊢;have HX:=Qf hX;have aW:=Qf aI;obtain⟨xc,xf,xz⟩:=hX.facts;clear hX aI;go_wp2_with fail;refine(HO.o _ aW.o).mono ?_;rintro e w1 ⟨rfl,av⟩;have dO:=Qf (au aW.o av);have HX1:=Qf (HX.o.ak av);clear av xc xf xz;by_cases h0:e1=0
 ·by_cases h1:no=0
  ·have HE:=Qf (HR.o.trans (if_pos ⟨h0,h1⟩));subst h0 h1;obtain⟨xc,xf,xz⟩:=HX1.o.facts;go_wp2_with fail;refine(HC.o _).mono ?_;rintro e w2 ⟨rfl,aS⟩;have dS:=Qf (au dO.o aS);clear aS xc xf xz;go_wp2_with fail;refine(HM.o _ dS.o).mono ?_;rintro e w3 ⟨rfl,R3,nU,gU⟩;have HG3:=Qf (show gF w w3 pf pw R pv q.1 from⟨R3,nU,(aR.ar dS.o).trans gU⟩);clear nU gU;go_wp2_with fail;go_ret2;rw[HE.o];exact⟨rfl,HG3.o⟩
  ·have Jr:(no==0)=false:=by simpa using h1
   have HE:=Qf (HR.o.trans (if_neg (fun h=>h1 h.2)));subst h0;clear h1;go_wp2_with fail;go_ret2;rw[HE.o];exact⟨rfl,HG.o _ dO.o⟩
 ·have nV:(e1==0)=false:=by simpa using h0
  have HE:=Qf (HR.o.trans (if_neg (fun h=>h0 h.1)));clear h0;go_wp2_with fail;go_ret2;rw[HE.o];exact⟨rfl,HG.o _ dO.o⟩
end
end
section
open Go.RowKit
theorem AS(w:World)(a b c:Array Value)(A B C:TypeId):aw (((w.alloc (.cells a A)).alloc (.cells b B)).alloc (.cells c C)) w.heap.size a A∧aw (((w.alloc (.cells a A)).alloc (.cells b B)).alloc (.cells c C)) (w.heap.size+1) b B∧aw (((w.alloc (.cells a A)).alloc (.cells b B)).alloc (.cells c C)) (w.heap.size+1+1) c C∧Qi w (((w.alloc (.cells a A)).alloc (.cells b B)).alloc (.cells c C)):=by
 refine⟨((aw.new w a A).old _).old _,?_,?_,aq (aq (aq (Qj w) _) _) _⟩
 ·have:=(aw.new (w.alloc (.cells a A)) b B).old (.cells c C)
  rwa [World.size_alloc] at this
 ·have:=aw.new ((w.alloc (.cells a A)).alloc (.cells b B)) c C
  rwa [World.size_alloc,World.size_alloc] at this
section
variable{w w' w'':World}{pf pw:Nat}{R R':Rp}{pv:Value}{Y Z:Sy}
theorem gF.dV(h:gF w w' pf pw R pv Z){B:Nat}{vs:Array Value}(hB:aw w' B vs 48)(hw:w.heap.size≤B)(v0 v1 v2 v3 v4 v5 v6:Value) :
  gF w (((((((w'.setCell ⟨B,0,none⟩ v0).setCell ⟨B,1,none⟩ v1).setCell ⟨B,2,none⟩ v2).setCell ⟨B,3,none⟩ v3).setCell ⟨B,4,none⟩ v4).setCell ⟨B,5,none⟩ v5).setCell ⟨B,6,none⟩ v6) pf pw R pv Z:=by
 obtain⟨R',h1,h2⟩:=h;have hm:Mod (fun k=>k=B) w' (((((((w'.setCell ⟨B,0,none⟩ v0).setCell ⟨B,1,none⟩ v1).setCell ⟨B,2,none⟩ v2).setCell ⟨B,3,none⟩ v3).setCell ⟨B,4,none⟩ v4).setCell ⟨B,5,none⟩ v5).setCell ⟨B,6,none⟩ v6):=
  (((((((Mod.refl (fun k=>k=B) w').setCell (a:=⟨B,0,none⟩) (.inl rfl) v0).setCell (a:=⟨B,1,none⟩) (.inl rfl) v1).setCell (a:=⟨B,2,none⟩) (.inl rfl) v2).setCell (a:=⟨B,3,none⟩) (.inl rfl) v3).setCell (a:=⟨B,4,none⟩) (.inl rfl) v4).setCell (a:=⟨B,5,none⟩) (.inl rfl) v5).setCell (a:=⟨B,6,none⟩) (.inl rfl) v6
 exact⟨R',h1.other hB (by decide) (by decide) (by decide) (by decide) hm,((((((h2.jb hw 0 v0).jb hw 1 v1).jb hw 2 v2).jb hw 3 v3).jb hw 4 v4).jb hw 5 v5).jb hw 6 v6⟩
theorem iK{tmps:Array Value}{W:World}{B:Nat}{x:Cn}{e:Int}(hb:aw W B #[.string x.path,.int .i64 x.dir,.int .i64 x.info,.int .i64 x.files,.int .i64 x.out,.int .i64 x.jm,.string x.top] 48)
  (h8:tmps.getD 6 undef=.pointer (some ⟨B,0,none⟩)) (h9:tmps.getD 7 undef=.int .i64 e):(results Tryz.f60 tmps).run Tryz.prog W=.ok (.tuple #[x.v,.int .i64 e]) W:=by
 have q0:=hb.cell 0;have q1:=hb.cell 1;have q2:=hb.cell 2;have q3:=hb.cell 3;have q4:=hb.cell 4;have q5:=hb.cell 5;have q6:=hb.cell 6;rw[Array.getD_eq_getD_getElem?] at h8 h9;simp[results,Tryz.results60,go_sem,Cn.v,h8,h9,q0,q1,q2,q3,q4,q5,q6]
theorem Iz(k:Nat)(hk:k<4):∃s,fD.drop k=s::fD.drop (k+1)∧s.size≤9223372036854775807∧∀w,(Instr.index 196 (.agg #[.string (ByteArray.mk #[105,110,102,111]),.string (ByteArray.mk #[102,105,108,101,115]),.string (ByteArray.mk #[101,120,112,117,110,103,101,100]),.string (ByteArray.mk #[109,111,118,105,110,103])]) (.int .i64 k)).run Tryz.prog w=.ok (.string s) w:=by
 rcases(by omega:k=0∨k=1∨k=2∨k=3) with rfl|rfl|rfl|rfl
 ·exact⟨_,rfl,by decide,fun w=>(gL _ _ _ _ w).1⟩
 ·exact⟨_,rfl,by decide,fun w=>(gL _ _ _ _ w).2.1⟩
 ·exact⟨_,rfl,by decide,fun w=>(gL _ _ _ _ w).2.2.1⟩
 ·exact⟨_,rfl,by decide,fun w=>(gL _ _ _ _ w).2.2.2⟩
theorem Ab(h:bg w pf pw R pv Y){N:Nat}(hk:cE Y N)(hN:N≤99000)(u:Us)(p:pA)(hn:p.name.size≤9223372036854775807) :
  Calls Tryz.prog 60 #[.pointer (some ⟨pf,0,none⟩),.agg #[.int .i64 u.u,.int .i64 u.g,.string u.data],.agg #[.int .i64 p.dir,.string p.name,.string p.top]] w fun e w'=>
   e=.returned (.tuple #[(Y.br u p).2.1.v,.int .i64 (Y.br u p).2.2])∧gF w w' pf pw R pv (Y.br u p).1:=by
 obtain⟨Dm,Jc,eu,aI⟩:=AS w #[.int .i64 u.u,.int .i64 u.g,.string u.data] #[.int .i64 p.dir,.string p.name,.string p.top] #[.string ⟨#[]⟩,.int .i64 0,.int .i64 0,.int .i64 0,.int .i64 0,.int .i64 0,.string ⟨#[]⟩] 27 143 48;have hD:=fun w1 (av:Qi w w1)=>xC (h.ak av) hk (by omega) u p.dir p.name hn;have HH:=Qf (fun w1 (av:Qi w w1)=>h.ak av);have HR:=Qf (show Y.br u p=if(Y.dR u p.dir p.name).2.2≠0 then((Y.dR u p.dir p.name).1,iV,(Y.dR u p.dir p.name).2.2) else if((Y.dR u p.dir p.name).1.fC u (Y.dR u p.dir p.name).2.1 fD).2≠0 then(((Y.dR u p.dir p.name).1.fC u (Y.dR u p.dir p.name).2.1 fD).1,iV,((Y.dR u p.dir p.name).1.fC u (Y.dR u p.dir p.name).2.1 fD).2) else(((Y.dR u p.dir p.name).1.fC u (Y.dR u p.dir p.name).2.1 fD).1,((Y.dR u p.dir p.name).1.fC u (Y.dR u p.dir p.name).2.1 fD).1.fs.kp ((Y.dR u p.dir p.name).1.fC u (Y.dR u p.dir p.name).2.1 fD).1.dead u p) from rfl);have PZ:=Qf (hk.dR u p.dir p.name);have Ec:=Qf (Iz);generalize Y.br u p=rd at HR⊢;generalize Y.dR u p.dir p.name=r at HR PZ hD;obtain⟨Y1,no,e1⟩:=r;dsimp only at HR PZ hD;have HD:=Qf hD;clear h hk hD;go_enter Tryz.func60,Tryz.ntmps60;go_upto_region 1 with fail;generalize ((w.alloc (.cells #[.int .i64 u.u,.int .i64 u.g,.string u.data] 27)).alloc (.cells #[.int .i64 p.dir,.string p.name,.string p.top] 143)).alloc (.cells #[.string ⟨#[]⟩,.int .i64 0,.int .i64 0,.int .i64 0,.int .i64 0,.int .i64 0,.string ⟨#[]⟩] 48)=W0 at Dm Jc eu aI⊢;have bP:=Qf aI;have mL:=Qf (ag Dm (ag Jc eu));obtain⟨uc,uf,uz⟩:=Dm.facts;obtain⟨qc,qf,qz⟩:=Jc.facts;clear Dm Jc eu aI;go_wp2_with fail;refine(HD.o _ bP.o).mono ?_;rintro e w1 ⟨rfl,R1,eF,pZ⟩;have Ob:=HH.o _ bP.o;have FT:=mL.o.1.sy Ob pZ (by decide) (by decide);have Je:=mL.o.2.1.sy Ob pZ (by decide) (by decide);have eh:=mL.o.2.2.sy Ob pZ (by decide) (by decide);have Nz:=Qf (show gF w w1 pf pw R pv Y1 from⟨R1,eF,(aR.ar bP.o).trans pZ⟩);have dO:=Qf (ag FT (ag Je eh));obtain⟨rc,rf,rz⟩:=eh.facts;clear Ob eF pZ FT Je eh uc uf uz qc qf qz;by_cases h0:e1=0
 ·have nV:(e1 != 0)=false:=by simpa using h0
  have HE:=Qf (HR.o.trans (if_neg (by simpa using h0)));subst h0;clear rc rf rz;go_wp2_with fail
  go_loopw [29] (fun t29 wr=>∃(k:Nat) (Z:Sy),k≤4∧t29=.int .i64 k∧Y1.fC u no fD=Z.fC u no (fD.drop k)∧cE Z (N+1+k)∧gF w wr pf pw R pv Z∧aw wr w.heap.size #[.int .i64 u.u,.int .i64 u.g,.string u.data] 27∧aw wr (w.heap.size+1) #[.int .i64 p.dir,.string p.name,.string p.top] 143∧aw wr (w.heap.size+1+1) #[.string ⟨#[]⟩,.int .i64 0,.int .i64 0,.int .i64 0,.int .i64 0,.int .i64 0,.string ⟨#[]⟩] 48) (fun t29 _=>4-(intOf t29).toNat)
  case atStart=>exact⟨0,Y1,by omega,rfl,rfl,PZ.o,Nz.o,dO.o.1,dO.o.2.1,dO.o.2.2⟩
  case round=>
   obtain⟨k,Z,hk,rfl,hd,hok,hg,hu,hp,hr⟩:=hrel;obtain⟨Rk,Dl,Au⟩:=hg;have HU:=Qf (ag Dl (ag Au (ag hu (ag hp hr))));by_cases hlt:k<4
   ·obtain⟨s,je,iR,hix⟩:=Ec.o k hlt;have He:=Qf (xC Dl hok (by omega) u no s iR);have Ma:=Qf (hok.dR u no s);have NB:=Qf (show Y1.fC u no fD=if(Z.dR u no s).2.2≠0 then((Z.dR u no s).1,(Z.dR u no s).2.2) else(Z.dR u no s).1.fC u no (fD.drop (k+1)) by rw[hd,je];rfl);generalize Z.dR u no s=r at He Ma NB;obtain⟨Z2,n2,e2⟩:=r;dsimp only at He Ma NB;obtain⟨uc,uf,uz⟩:=hu.facts;clear Dl Au hu hp hr hd hok je;go_wp2_with fail;refine He.o.mono ?_;rintro e w2 ⟨rfl,R2,u',jr⟩;obtain⟨Dl,Au,hu,hp,hr⟩:=HU.o;have hu2:=hu.sy Dl jr (by decide) (by decide);have MC:=hp.sy Dl jr (by decide) (by decide);have pB:=hr.sy Dl jr (by decide) (by decide);have KD:=Qf (show gF w w2 pf pw R pv Z2 from⟨R2,u',Au.trans jr⟩);have dS:=Qf (ag hu2 (ag MC pB));obtain⟨rc,rf,rz⟩:=pB.facts;clear Dl Au hu hp hr hu2 MC pB u' jr uc uf uz hix;by_cases h2:e2=0
    ·have h2b:(e2 != 0)=false:=by simpa using h2
     have ND:=Qf (NB.o.trans (if_neg (by simpa using h2)));subst h2;clear rc rf rz;go_wp2_with fail;go_roundw
     case measure=>simp[intOf];omega
     case rel=>exact⟨k+1,Z2,by omega,by go_num,ND.o,Ma.o,KD.o,dS.o.1,dS.o.2.1,dS.o.2.2⟩
    ·have h2b:(e2 != 0)=true:=by simpa using h2
     have ND:=Qf (NB.o.trans (if_pos h2));have bH:=Qf (HE.o.trans (if_pos (by rw[ND.o];exact h2)));clear h2;go_wp2_with (exact bodyPost_ret (iK (x:=iV) (e:=e2) dS.o.2.2.dV rfl rfl) rfl ⟨by rw[bH.o,ND.o],by rw[bH.o,ND.o];exact KD.o.dV dS.o.2.2 (by omega) _ _ _ _ _ _ _⟩)
   ·obtain rfl:k=4:=by omega
    have rC:Y1.fC u no fD=(Z,0):=hd;have nO:=Qf (show rd=(Z,Z.fs.kp Z.dead u p) by rw[HE.o,rC];rfl);have hlen:Z.fs.ns.length≤100000:=by
     have h1:=hok.du.pl.len;have h2:=hok.du.ok.lN;omega
    have HOp:=Qf (DH Dl hok.du.ok (by omega) hok.du.pl hlen u p);unfold Cn.v at HOp;generalize Z.fs.kp Z.dead u p=o at HOp nO;obtain⟨x,e3⟩:=o;dsimp only at HOp;obtain⟨uc,uf,uz⟩:=hu.facts;obtain⟨qc,qf,qz⟩:=hp.facts;clear Dl Au hu hp hr hd hok rC hlen;go_wp2_with fail;refine HOp.o.mono ?_;rintro e w2 ⟨rfl,aS⟩;obtain⟨Dl,Au,hu,hp,hr⟩:=HU.o;have pB:=hr.ak aS;have KD:=Qf (show gF w w2 pf pw R pv Z from⟨Rk,Dl.ak aS,Au.trans (aR.ar aS)⟩);have dS:=Qf pB;obtain⟨rc,rf,rz⟩:=pB.facts;clear Dl Au hu hp hr pB aS uc uf uz qc qf qz;go_wp2_with (exact bodyPost_ret (iK (x:=x) (e:=e3) dS.o.dV rfl rfl) rfl ⟨by rw[nO.o],by rw[nO.o];exact KD.o.dV dS.o (by omega) _ _ _ _ _ _ _⟩)
 ·have nV:(e1 != 0)=true:=by simpa using h0
  have HE:=Qf (HR.o.trans (if_pos h0));clear h0;go_wp2_with (exact bodyPost_ret (iK (x:=iV) (e:=e1) dO.o.2.2.dV rfl rfl) rfl ⟨by rw[HE.o],by rw[HE.o];exact Nz.o.dV dO.o.2.2 (by omega) _ _ _ _ _ _ _⟩)
end
end
section
open Go.RowKit
def bA:ByteArray:=⟨#[47,97]⟩
def bAX:ByteArray:=⟨#[47,97,47,120]⟩
def bBX:ByteArray:=⟨#[47,98,47,120]⟩
def bX:ByteArray:=⟨#[120]⟩
def its22:List It:=[⟨bA,1,448,5,0,9,⟨#[]⟩⟩,⟨bAX,2,0,0,0,0,bX⟩,⟨bBX,2,0,0,0,0,⟨#[]⟩⟩]
theorem El{w:World}{pw:Nat}{R:Rp}{S:Fs}(h:bm w pw R S) :
  Calls Tryz.prog 9 #[.pointer (some ⟨R.pt,0,none⟩)] w fun e w'=>e=.returned (.int .i64 S.ns.length)∧w=w':=by
 have hl:(R.G.map Gn.e).length=S.ns.length:=by rw[h.ns,List.length_map,List.length_map]
 rw[←hl];exact C' w R.pt R.pm S.last _ R.ey h.tab
def C22:Array Value:=#[.string (ByteArray.mk #[47,97]),.int .i64 1,.int .i64 448,.int .i64 5,.int .i64 0,.int .i64 9,.string (ByteArray.mk #[]),.string (ByteArray.mk #[47,97,47,120]),.int .i64 2,.int .i64 0,.int .i64 0,.int .i64 0,.int .i64 0,.string (ByteArray.mk #[120]),.string (ByteArray.mk #[47,98,47,120]),.int .i64 2,.int .i64 0,.int .i64 0,.int .i64 0,.int .i64 0,.string (ByteArray.mk #[])]
end
end Go.Proofs.YtabbjaomlmnnhaaGreat
