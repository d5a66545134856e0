import Derived.OrdersHeld
import Derived.Deep.RegionHeld3
import Derived.BigQuiet
import Derived.Deep.LoopGhost
import Derived.Test.YtabbjaomlmnnhaaGreatCO16
import Derived.Test.YtabbjaomlmnnhaaGreatCO14
import Derived.Test.YtabbjaomlmnnhaaGreatCO12
import Derived.Test.YtabbjaomlmnnhaaGreatCO15
import Derived.Test.YtabbjaomlmnnhaaGreatCO1
import Derived.Test.YtabbjaomlmnnhaaGreatCO6
import Derived.Test.YtabbjaomlmnnhaaGreatCO2
import Derived.Test.YtabbjaomlmnnhaaGreatCO13
import Derived.Test.YtabbjaomlmnnhaaGreatCO9
import Derived.Test.YtabbjaomlmnnhaaGreatCO8
import Derived.Test.YtabbjaomlmnnhaaGreatCO10
set_option linter.unusedVariables false
set_option linter.unusedSimpArgs false
set_option maxRecDepth 100000
set_option maxHeartbeats 16000000
namespace Go.Proofs.YtabbjaomlmnnhaaGreat
open Go.Value renaming int→UE,string→UF,slice→UG,pointer→UH,agg→UJ,tuple→UK
open Go.IntKind renaming i64→UL
section
open Go.RowKit
theorem Lo(S:Fs)(c:Cr)(at':Int)(p:List UInt8):S.step c at' p=if(S.bG at').kind≠1 then(0,9) else if(S.bG at').may c 1=false then(0,6) else if p=[46,46] then(S.bl at',0) else if 255<p.length then(0,13) else(S.aB (aw (S.bG at').au (str p)),0):=by
 unfold Fs.step Fs.bG
 cases S.get at' with
 |none=>rfl
 |some d=>rfl
theorem Gh{S:Fs}{N:Nat}(hk:ay S N)(k:Int):0≤(S.bG k).mode∧(S.bG k).mode≤1023:=by
 unfold Fs.bG
 cases h:S.get k with
 |none=>exact⟨by decide,by decide⟩
 |some a=>exact(hk.get h).1.mode
section
variable{w w':World}{pf:Nat}{R:Rf}{S:Fs}
theorem Cp(h:aW w pf R S){N:Nat}(hk:ay S N)(cr:Cr)(path:ByteArray)(hs:path.size≤100000)(f:Bool) :
  Calls Tryz.prog 131 #[UH (some ⟨pf,0,none⟩),UJ #[UE UL cr.u,UE UL cr.g],UF path,.bool f] w fun e w'=>e=.returned (UK #[(S.path cr path f).1.v,UE UL (S.path cr path f).2])∧UA w w':=by
 have de:=ao (ao (UB w) (.cells #[UE UL cr.u,UE UL cr.g] 64)) (.cells #[UE UL 0,UF ⟨#[]⟩,UE UL 0,.bool false] 176);have CP:=ax.new (w.alloc (.cells #[UE UL cr.u,UE UL cr.g] 64)) #[UE UL 0,UF ⟨#[]⟩,UE UL 0,.bool false] 176;rw[World.size_alloc] at CP;have KU:=(ax.new w #[UE UL cr.u,UE UL cr.g] 64).bI (.cells #[UE UL 0,UF ⟨#[]⟩,UE UL 0,.bool false] 176);have HPa:=Ux (fun w=>Fb path w (by omega));have HPt:=Ux (fun w=>sI path w hs);have K4:=Ux (fun w=>sG path w hs);have HH:=Ux h;have HK:=Ux hk;have hps:(b8 path.data.toList).length≤100001:=by
  have h1:=jE path.data.toList;have h2:path.data.toList.length=path.size:=Array.length_toList;omega
 have nj:=Ux (show S.path cr path f=if eZ path≠0 then(gS,eZ path) else S.ft cr f 8 1 (fx path.data.toList) (b8 path.data.toList) from rfl);generalize S.path cr path f=Z at nj⊢;generalize eZ path=pe at HPa nj;generalize fx path.data.toList=sl at K4 nj;generalize b8 path.data.toList=ps at HPt nj hps;clear h hk;go_enter Tryz.func131,Tryz.ntmps131;go_upto_region 1 with fail;generalize World.alloc _ _=X0 at de CP KU⊢;have cB:=Ux de;have lI:=Ux CP;have yR:=Ux KU;clear de CP KU;go_wp2_with fail;refine(HPa.o _).mono ?_;rintro e w1 ⟨rfl,rfl⟩;have eK:=Ux (UB X0);by_cases hpe:pe=0
 ·have eA:=Ux (nj.o.trans (if_neg (by simpa using hpe)));have hpb:(pe != 0)=false:=by simpa using hpe
  clear hpe;go_wp2_with fail;refine(HPt.o _).mono ?_;rintro e w2 ⟨⟨pv,rfl,hO⟩,aY⟩;obtain⟨pa,pcap,rfl,-,-⟩:=hO.len;have HSa:=Ux (SA.xK hO);have vr:=Ux aY;clear hO aY;go_wp2_with fail;refine(K4.o _).mono ?_;rintro e w3 ⟨rfl,cl⟩;have HSa3:=Ux (HSa.o.an cl);have Lc:=Ux (ar vr.o cl);clear cl;go_wp2_with fail
  go_loopw [11,12,13,14] (fun t11 t12 t13 t14 wr=>∃(at':Int) (l:List (List UInt8)) (must:Bool) (hp:Nat) (ta:Option Addr) (tl tc:Nat),t11=UG ta tl tc∧t12=.bool must∧t13=UE UL at'∧t14=UE UL hp∧SA wr ta tl tc l∧hp≤8∧l.length≤100001+hp*4097∧Z=S.ft cr f (8-hp) at' must l∧UA X0 wr) (fun t11 _ _ t14 _=>(8-(intOf t14).toNat)*10000+pQ t11)
  case atStart=>exact⟨1,ps,sl,0,pa,_,pcap,rfl,rfl,rfl,rfl,HSa3.o,by omega,by omega,eA.o,Lc.o⟩
  case round=>
   obtain⟨at',l,must,hp,ta,tl,tc,rfl,rfl,rfl,rfl,hS,QG,hll,hE,hb⟩:=hrel;have hln:=hS.len;have HS:=Ux hS;have HE:=Ux hE;have eK:=Ux hb;clear hS hE hb
   cases l with
   |nil=>
    obtain rfl:tl=0:=by simpa using hln.symm
    have bS:=Ux (HE.o.trans zR);obtain⟨fc,ff,fz⟩:=(lI.o.an eK.o).facts;go_wp2_with (first|exact bodyPost_ret (aU (x:=⟨0,ByteArray.empty,at',true⟩) (e:=0) (lI.o.an eK.o).dA rfl rfl) rfl ⟨by rw[bS.o],aC (cB.o.trans (eK.o.mono cB.o.size)) (Nat.le_succ _)⟩|exact bM (aU (x:=⟨0,ByteArray.empty,at',true⟩) (e:=0) (lI.o.an eK.o).dA rfl rfl) ⟨by rw[bS.o],aC (cB.o.trans (eK.o.mono cB.o.size)) (Nat.le_succ _)⟩)
   |cons p l=>
    obtain⟨m,rfl⟩:∃m,tl=m+1:=⟨l.length,by simpa using hln.symm⟩;have hlm:l.length=m:=by simpa using hln
    have qD:=Ux hlm;obtain⟨b,off,rfl,hbl⟩:=HS.o.ej (Nat.succ_pos m);have hpc:wr.cell? ⟨b,off,none⟩=some (UF (str p)):=HS.o.cell rfl 0 (by simp);have O7:m+1≤tc:=HS.o.2.1;have O6:tc≤9223372036854775807:=HS.o.2.2.1;have Et:=Ux hll;have hm8:m≤200000:=by simp at hll;omega
    clear hln hlm hll;obtain⟨lb,hlb⟩:∃x:Bool,((m:Int)+1==1)=x:=⟨_,rfl⟩;have BG:=Ux (show lb=decide (l=[]) by
     rw[←hlb,←qD.o]
     cases l with
     |nil=>rfl
     |cons y l=>simp;omega)
    go_upto_region 7 with fail
    go_cut [11] (fun t11 wx=>∃(ta2:Option Addr) (tc2:Nat),t11=UG ta2 m tc2∧SA wr ta2 m tc2 l∧wx=wr)
    case first=>
     by_cases h1:tc=1
     ·obtain rfl:m=0:=by omega
      subst h1;go_wp2_with fail;go_meet;exact⟨_,_,rfl,(show SA wr (some ⟨b,off,none⟩) 0 0 l from by have h:=HS.o.tail rfl;simpa using h),rfl⟩
     ·have Q0:¬(tc:Int)=1:=by omega
      have BD:=Ux (show SA wr (some ⟨b,off+1,none⟩) m (tc-1) l from by have h:=HS.o.tail rfl;rw[if_neg h1] at h;exact h);go_wp2_with fail;go_meet;exact⟨_,_,rfl,BD.o,rfl⟩
    case rest=>
     obtain⟨ta2,tc2,rfl,j7,rfl⟩:=hcut;have oA:=Ux j7;clear j7 hpc hbl O7 O6 HS;have hbw:=cB.o.trans (eK.o.mono cB.o.size);obtain⟨da,dl,dc,hDE,hG⟩:=mN HH.o at';have HG:=Ux (hG wc hbw);have HDE:=Ux (hDE.nC hbw (aa _));have jY:=Ux (Lo S cr at' p);have hpz:(str p).size=p.length:=dn p;have T7:=Ux (show(str p).toList=p by rw[cd,eO]);unfold An.v at HG;have hmd:=Gh HK.o at';obtain⟨d,hd⟩:∃d,S.bG at'=d:=⟨_,rfl⟩;rw[hd] at HG HDE jY hmd;clear hd hDE hG hbw;have lX:=Ux (fun w=>sJ cr d da dl dc 1 hmd (by omega) w);obtain⟨mb,hmb⟩:∃b,d.may cr 1=b:=⟨_,rfl⟩;rw[hmb] at lX jY;clear hmb hmd;unfold An.v at lX;go_wp2_with fail;refine HG.o.mono ?_;rintro e w4 ⟨rfl,dM⟩;have aJ:=ao (ar eK.o dM) (.cells #[UE UL d.no,UE UL d.dev,UE UL d.kind,UE UL d.mode,UE UL d.uid,UE UL d.gid,UE UL d.mtime,UE UL d.ctime,UE UL d.ak,UE UL d.up,UF d.data,UG da dl dc] 149);have qR:=ax.new w4 #[UE UL d.no,UE UL d.dev,UE UL d.kind,UE UL d.mode,UE UL d.uid,UE UL d.gid,UE UL d.mtime,UE UL d.ctime,UE UL d.ak,UE UL d.up,UF d.data,UG da dl dc] 149;have cK:=ao dM (.cells #[UE UL d.no,UE UL d.dev,UE UL d.kind,UE UL d.mode,UE UL d.uid,UE UL d.gid,UE UL d.mtime,UE UL d.ctime,UE UL d.ak,UE UL d.up,UF d.data,UG da dl dc] 149);go_upto_region 9 with fail;generalize w4.alloc _=X at aJ qR cK⊢
     replace eK:=Ux aJ
     have BD:=Ux (oA.o.an cK);have Uk:=Ux (HDE.o.an cK);have OH:=Ux qR;obtain⟨dcc,dcf,dcz⟩:=qR.facts;clear dM aJ qR cK oA HDE HG;by_cases gv:d.kind=1
     ·have q1:(d.kind != 1)=false:=by simpa using gv
      have q1':(d.kind==1)=true:=by simpa using gv
      have ow:=Ux (jY.o.trans (if_neg (by simpa using gv)));obtain⟨cc,cf,cz⟩:=(yR.o.an eK.o).facts;clear gv;go_wp2_with fail;refine(lX.o _).mono ?_;rintro e w5 ⟨rfl,cK⟩;have Od:=ar eK.o cK
      replace eK:=Ux Od
      have uD:=Ux (BD.o.an cK);have HDE5:=Ux (Uk.o.an cK);have CQ:=OH.o.an cK;have HD5:=Ux CQ;clear dcc dcf dcz cc cf cz;obtain⟨dcc,dcf,dcz⟩:=CQ.facts;clear cK Od CQ BD Uk OH;have Sb:=cB.o.trans (eK.o.mono cB.o.size)
      cases mb with
      |false=>
       have bS:=Ux (HE.o.trans (oJ (by rw[ow.o,if_pos rfl];decide)));rw[ow.o,if_pos rfl] at bS;obtain⟨fc,ff,fz⟩:=(lI.o.an eK.o).facts;go_wp2_with (first|exact bodyPost_ret (aU (x:=gS) (e:=6) (lI.o.an eK.o).dA rfl rfl) rfl ⟨by rw[bS.o],aC (cB.o.trans (eK.o.mono cB.o.size)) (Nat.le_succ _)⟩|exact bM (aU (x:=gS) (e:=6) (lI.o.an eK.o).dA rfl rfl) ⟨by rw[bS.o],aC (cB.o.trans (eK.o.mono cB.o.size)) (Nat.le_succ _)⟩)
      |true=>
       replace ow:=Ux (ow.o.trans (if_neg (by simp)))
       by_cases hpp:p=[46,46]
       ·have uC:=Ux (ow.o.trans (if_pos hpp));have hpb:((str p).toList==[46,46])=true:=by rw[T7.o,hpp];rfl
        have HAb:=Ux (Cw (HH.o.an Sb) HK.o at');have bS:=Ux (HE.o.trans (xt (by rw[uC.o]) hpp));rw[uC.o] at bS;clear hpp Sb;go_wp2_with fail;refine HAb.o.mono ?_;rintro e w6 ⟨rfl,fp⟩;have Qc:=Ux (uD.o.an fp);have HC6:=Ux (ar eK.o fp);clear fp dcc dcf dcz;go_wp2_with fail;go_roundw
        case measure=>simp[intOf,pQ]
        case rel=>exact⟨_,l,must,hp,ta2,m,tc2,rfl,rfl,rfl,rfl,Qc.o,QG,by have:=Et.o;simp at this;omega,bS.o,HC6.o⟩
       ·have uC:=Ux (ow.o.trans (if_neg hpp));have hpb:((str p).toList==[46,46])=false:=by rw[T7.o];simpa using hpp
        have K7:=Ux hpp;clear hpp;by_cases MT:255<p.length
        ·have bS:=Ux (HE.o.trans (oJ (by rw[uC.o,if_pos MT];decide)));rw[uC.o,if_pos MT] at bS;have Ts:(255:Int)<((str p).size:Int):=by rw[hpz];omega
         obtain⟨fc,ff,fz⟩:=(lI.o.an eK.o).facts;go_wp2_with (first|exact bodyPost_ret (aU (x:=gS) (e:=13) (lI.o.an eK.o).dA rfl rfl) rfl ⟨by rw[bS.o],aC (cB.o.trans (eK.o.mono cB.o.size)) (Nat.le_succ _)⟩|exact bM (aU (x:=gS) (e:=13) (lI.o.an eK.o).dA rfl rfl) ⟨by rw[bS.o],aC (cB.o.trans (eK.o.mono cB.o.size)) (Nat.le_succ _)⟩)
        ·have jU:=Ux (uC.o.trans (if_neg MT));have Ts:¬(255:Int)<((str p).size:Int):=by rw[hpz];omega
         have Qt:=Ux (pT d.au da dl dc (str p) w5 HDE5.o);obtain⟨ef,hef⟩:∃x,aw d.au (str p)=x:=⟨_,rfl⟩;rw[hef] at jU Qt;have pL:=Ux (fun w1 hb=>vL (HH.o.an (w':=w1) hb) ef);obtain⟨ov,hov⟩:∃x,S.aB ef=x:=⟨_,rfl⟩;rw[hov] at jU pL;obtain⟨na,nl,nc,-,Tj⟩:=mN HH.o ov;have hnz:=Ec HK.o ov;have BI:=Ux Tj;unfold An.v at BI;clear MT hef hov Tj Sb;go_wp2_with fail;refine Qt.o.mono ?_;rintro e w6 ⟨rfl,fp⟩;have JT:=ar eK.o fp
         replace eK:=Ux JT
         have Qc:=Ux (uD.o.an fp);have NV:=cB.o.trans (JT.mono cB.o.size);clear fp JT uD dcc dcf dcz;go_wp2_with fail;refine(pL.o _ NV).mono ?_;rintro e w7 ⟨rfl,rfl⟩;go_wp2_with fail;refine(BI.o _ NV).mono ?_;rintro e w8 ⟨rfl,rl⟩;obtain⟨n,hn⟩:∃n,S.bG ov=n:=⟨_,rfl⟩;rw[hn] at hnz⊢;have hC8:=ao (ar eK.o rl) (.cells #[UE UL n.no,UE UL n.dev,UE UL n.kind,UE UL n.mode,UE UL n.uid,UE UL n.gid,UE UL n.mtime,UE UL n.ctime,UE UL n.ak,UE UL n.up,UF n.data,UG na nl nc] 149);have hn8:=ax.new w8 #[UE UL n.no,UE UL n.dev,UE UL n.kind,UE UL n.mode,UE UL n.uid,UE UL n.gid,UE UL n.mtime,UE UL n.ctime,UE UL n.ak,UE UL n.up,UF n.data,UG na nl nc] 149;have rk:=ao rl (.cells #[UE UL n.no,UE UL n.dev,UE UL n.kind,UE UL n.mode,UE UL n.uid,UE UL n.gid,UE UL n.mtime,UE UL n.ctime,UE UL n.ak,UE UL n.up,UF n.data,UG na nl nc] 149);go_upto_region 18 with fail;generalize w8.alloc _=Y at hC8 hn8 rk⊢
         replace eK:=Ux hC8
         have Rc:=Ux (Qc.o.an rk);obtain⟨ncc,ncf,ncz⟩:=hn8.facts;have HN9:=Ux hn8;clear rl hC8 hn8 rk Qc NV BI pL Qt lX;have HHn:=Ux hn;clear hn
         cases hgn:S.get ov with
         |none=>
          rw[hgn] at hnz;have Mg:(n.no==0)=true:=hnz;have Er:=Ux (show S.get (S.step cr at' p).1=none by rw[jU.o];exact hgn);clear hgn hnz
          cases lb with
          |true=>
           have fk:l=[]:=of_decide_eq_true BG.o.symm;have bS:=Ux (HE.o.trans (zS (by rw[jU.o]) K7.o Er.o fk));obtain⟨fc,ff,fz⟩:=(lI.o.an eK.o).facts;go_wp2_with (first|exact bodyPost_ret (aU (x:=⟨at',str p,0,must⟩) (e:=0) (lI.o.an eK.o).dA rfl rfl) rfl ⟨by rw[bS.o],aC (cB.o.trans (eK.o.mono cB.o.size)) (Nat.le_succ _)⟩|exact bM (aU (x:=⟨at',str p,0,must⟩) (e:=0) (lI.o.an eK.o).dA rfl rfl) ⟨by rw[bS.o],aC (cB.o.trans (eK.o.mono cB.o.size)) (Nat.le_succ _)⟩)
          |false=>
           have fk:l≠[]:=of_decide_eq_false BG.o.symm;have bS:=Ux (HE.o.trans (vI (by rw[jU.o]) K7.o Er.o fk));obtain⟨fc,ff,fz⟩:=(lI.o.an eK.o).facts;go_wp2_with (first|exact bodyPost_ret (aU (x:=gS) (e:=5) (lI.o.an eK.o).dA rfl rfl) rfl ⟨by rw[bS.o],aC (cB.o.trans (eK.o.mono cB.o.size)) (Nat.le_succ _)⟩|exact bM (aU (x:=gS) (e:=5) (lI.o.an eK.o).dA rfl rfl) ⟨by rw[bS.o],aC (cB.o.trans (eK.o.mono cB.o.size)) (Nat.le_succ _)⟩)
         |some n2=>
          have hnn:n2=n:=by rw[←HHn.o,bW hgn]
          subst hnn;rw[hgn] at hnz;have Mg:(n2.no==0)=false:=hnz;have kO:=Ux (bV hgn);have Rb:=Ux (HK.o.get hgn).1.sy;have Er:=Ux (show S.get (S.step cr at' p).1=some n2 by rw[jU.o];exact hgn);clear hgn hnz;have yO:=Ux (show((n2.kind==3)&&(!lb||(must||f)))=decide (n2.kind=3∧(l≠[]∨must=true∨f=true)) by
           rw[BG.o];by_cases h1:n2.kind=3<;>by_cases h2:l=[]<;>cases must<;>cases f<;>simp[h1,h2])
          obtain⟨lk,hlk⟩:∃x,((n2.kind==3)&&(!lb||(must||f)))=x:=⟨_,rfl⟩;have Hlk:=Ux hlk;rw[hlk] at yO;go_upto_region 22 with fail
          go_cut [96] (fun t96 wx=>t96=.bool lk∧wx=Y)
          case first=>
           clear hlk
           cases im:(n2.kind==3) with
           |false=>
            have:lk=false:=by rw[←Hlk.o,im];rfl
            subst this;go_wp2_with fail;go_meet;exact⟨rfl,rfl⟩
           |true=>
            cases lb with
            |false=>
             have:lk=true:=by rw[←Hlk.o,im];rfl
             subst this;go_wp2_with fail;go_meet;exact⟨rfl,rfl⟩
            |true=>
             cases must with
             |true=>
              have:lk=true:=by rw[←Hlk.o,im];rfl
              subst this;go_wp2_with fail;go_meet;exact⟨rfl,rfl⟩
             |false=>
              have:lk=f:=by rw[←Hlk.o,im];rfl
              subst this;go_wp2_with fail;go_meet;exact⟨rfl,rfl⟩
          case rest=>
           obtain⟨rfl,rfl⟩:=hcut;clear hlk
           cases lk with
           |true=>
            have pF:=Ux (of_decide_eq_true yO.o.symm);have SG:n2.kind=3:=pF.o.1;have hsz:=Rb.o SG;have hstep:(S.step cr at' p).2=0:=by rw[jU.o]
            have pD:=Ux hstep;clear SG hstep;by_cases hp9:hp=8
            ·subst hp9;have bS:=Ux (HE.o.trans (vG pD.o K7.o Er.o pF.o));obtain⟨fc,ff,fz⟩:=(lI.o.an eK.o).facts;go_wp2_with (first|exact bodyPost_ret (aU (x:=gS) (e:=12) (lI.o.an eK.o).dA rfl rfl) rfl ⟨by rw[bS.o],aC (cB.o.trans (eK.o.mono cB.o.size)) (Nat.le_succ _)⟩|exact bM (aU (x:=gS) (e:=12) (lI.o.an eK.o).dA rfl rfl) ⟨by rw[bS.o],aC (cB.o.trans (eK.o.mono cB.o.size)) (Nat.le_succ _)⟩)
            ·have hp7:¬(8:Int)<(hp:Int)+1:=by omega
             have hq8:8-hp=(8-(hp+1))+1:=by omega
             rw[hq8] at HE;by_cases hde:n2.data.data.toList=[]
             ·have bS:=Ux (HE.o.trans (vF pD.o K7.o Er.o pF.o hde));have hde1:n2.data.toList=[]:=by rw[cd];exact hde
              clear hde;obtain⟨fc,ff,fz⟩:=(lI.o.an eK.o).facts;go_wp2_with (first|exact bodyPost_ret (aU (x:=gS) (e:=5) (lI.o.an eK.o).dA rfl rfl) rfl ⟨by rw[bS.o],aC (cB.o.trans (eK.o.mono cB.o.size)) (Nat.le_succ _)⟩|exact bM (aU (x:=gS) (e:=5) (lI.o.an eK.o).dA rfl rfl) ⟨by rw[bS.o],aC (cB.o.trans (eK.o.mono cB.o.size)) (Nat.le_succ _)⟩)
             ·have bS:=Ux (HE.o.trans (vH pD.o K7.o Er.o pF.o hde));have hde1:n2.data.toList.isEmpty=false:=by rw[cd];simpa using hde
              have hpos:0<n2.data.size:=by
               have h1:n2.data.data.toList.length=n2.data.size:=Array.length_toList;rcases Nat.eq_zero_or_pos n2.data.size with h0|h0
               ·exact absurd (List.eq_nil_of_length_eq_zero (by omega)) hde
               ·exact h0
              have Oy:=Ux (show(n2.data.data.toList.head?=some 47)=(n2.data[0]=47) by
               have h1:n2.data.data.toList.head?=some n2.data[0]:=by
                rw[List.head?_eq_getElem?,List.getElem?_eq_getElem (by rw[Array.length_toList];exact hpos)];rfl
               rw[h1];simp)
              have Nz:=Ux (fun w=>sI n2.data w (by omega));have T5:=Ux (fun w=>sG n2.data w (by omega));have vm:=Ux (show(b8 n2.data.data.toList).length≤4097 by
               have h1:=jE n2.data.data.toList;have h2:n2.data.data.toList.length=n2.data.size:=Array.length_toList;omega)
              clear hde;obtain⟨ps2,Sl⟩:∃x,b8 n2.data.data.toList=x:=⟨_,rfl⟩;obtain⟨sl2,Se⟩:∃x,fx n2.data.data.toList=x:=⟨_,rfl⟩;rw[Sl] at bS Nz vm;rw[Se] at bS T5;clear Sl Se;have hwrap:IntKind.i64.wrap ((hp:Int)+1)=(hp:Int)+1:=by rw[IntKind.wrap_i64];omega
              obtain⟨a2,ha2⟩:∃x,(if n2.data.data.toList.head?=some 47 then(1:Int) else at')=x:=⟨_,rfl⟩;obtain⟨m2,oy⟩:∃x,(if l=[] then must||sl2 else must)=x:=⟨_,rfl⟩;rw[ha2,oy] at bS;have rW:=Ux oy;obtain⟨q47,Si⟩:∃x,(((n2.data[0]:UInt8).toNat:Int)==47)=x:=⟨_,rfl⟩;have pG:=Ux (show a2=if q47=true then(1:Int) else at' by
               rw[←ha2,←Si];by_cases qg:n2.data[0]=47
               ·rw[if_pos (Oy.o.mpr qg),if_pos (by rw[qg];rfl)]
               ·rw[if_neg (fun h=>qg (Oy.o.mp h)),if_neg];simp only[beq_iff_eq];intro h;exact qg (by rw[nq];show(n2.data[0]:UInt8).toNat=47;omega))
              clear ha2 oy;go_upto_region 28 with fail
              go_cut [109] (fun t109 wx=>t109=.bool q47∧wx=wc)
              case first=>
               go_wp2_with fail;go_meet;exact⟨rfl,rfl⟩
              case rest=>
               obtain⟨rfl,hwc⟩:=hcut;subst hwc;clear Si
               go_step
               go_cut [13] (fun t13 wx=>t13=UE UL a2∧wx=wc)
               case first=>
                cases q47 with
                |true=>
                 obtain rfl:a2=1:=pG.o;go_wp2_with fail;go_meet;exact⟨rfl,rfl⟩
                |false=>
                 obtain rfl:a2=at':=pG.o;go_wp2_with fail;go_meet;exact⟨rfl,rfl⟩
               case rest=>
                obtain⟨rfl,hwc⟩:=hcut;subst hwc;clear pG
                cases must with
                |true=>
                 have p7:m2=true:=by rw[←rW.o];split<;>rfl
                 subst p7;go_wp2_with fail;refine(Nz.o _).mono ?_;rintro e w12 ⟨⟨pv2,rfl,AO⟩,ju⟩;obtain⟨a',n',c',W,hrun,rP,hab,oh⟩:=xu AO (Rc.o.an ju) (by have h1:=vm.o;have h2:=Et.o;simp at h2;omega) ju.size;have HR:=Ux hrun;have hnl:=rP.len;rw[List.length_append,qD.o] at hnl;have HX:=Ux (ag rP (ar eK.o (ju.trans oh)));clear AO ju hrun rP hab oh ncc ncf ncz;go_wp2_with (at_builtin;refine aT rfl rfl rfl rfl HR.o ?_);go_roundw
                 case measure=>have h1:=vm.o;simp[intOf,pQ];omega
                 case rel=>exact⟨_,ps2++l,_,hp+1,a',n',c',rfl,rfl,rfl,by go_num,HX.o.1,by omega,by have h1:=vm.o;have h2:=Et.o;simp at h2;rw[List.length_append];omega,bS.o,HX.o.2⟩
                |false=>
                 cases lb with
                 |false=>
                  have fk:l≠[]:=of_decide_eq_false BG.o.symm;have p7:m2=false:=by rw[←rW.o,if_neg fk]
                  subst p7;clear fk;go_wp2_with fail;refine(Nz.o _).mono ?_;rintro e w12 ⟨⟨pv2,rfl,AO⟩,ju⟩;obtain⟨a',n',c',W,hrun,rP,hab,oh⟩:=xu AO (Rc.o.an ju) (by have h1:=vm.o;have h2:=Et.o;simp at h2;omega) ju.size;have HR:=Ux hrun;have hnl:=rP.len;rw[List.length_append,qD.o] at hnl;have HX:=Ux (ag rP (ar eK.o (ju.trans oh)));clear AO ju hrun rP hab oh ncc ncf ncz;go_wp2_with (at_builtin;refine aT rfl rfl rfl rfl HR.o ?_);go_roundw
                  case measure=>have h1:=vm.o;simp[intOf,pQ];omega
                  case rel=>exact⟨_,ps2++l,_,hp+1,a',n',c',rfl,rfl,rfl,by go_num,HX.o.1,by omega,by have h1:=vm.o;have h2:=Et.o;simp at h2;rw[List.length_append];omega,bS.o,HX.o.2⟩
                 |true=>
                  have fk:l=[]:=of_decide_eq_true BG.o.symm;have p7:m2=sl2:=by rw[←rW.o,if_pos fk,Bool.false_or]
                  subst p7;clear fk;go_wp2_with fail;refine(T5.o _).mono ?_;rintro e w11 ⟨rfl,xU⟩
                  replace eK:=Ux (ar eK.o xU)
                  replace Rc:=Ux (Rc.o.an xU)
                  have Su:=HN9.o.an xU;clear xU ncc ncf ncz;obtain⟨ncc,ncf,ncz⟩:=Su.facts;clear Su;go_wp2_with fail;refine(Nz.o _).mono ?_;rintro e w12 ⟨⟨pv2,rfl,AO⟩,ju⟩;obtain⟨a',n',c',W,hrun,rP,hab,oh⟩:=xu AO (Rc.o.an ju) (by have h1:=vm.o;have h2:=Et.o;simp at h2;omega) ju.size;have HR:=Ux hrun;have hnl:=rP.len;rw[List.length_append,qD.o] at hnl;have HX:=Ux (ag rP (ar eK.o (ju.trans oh)));clear AO ju hrun rP hab oh ncc ncf ncz;go_wp2_with (at_builtin;refine aT rfl rfl rfl rfl HR.o ?_);go_roundw
                  case measure=>have h1:=vm.o;simp[intOf,pQ];omega
                  case rel=>exact⟨_,ps2++l,_,hp+1,a',n',c',rfl,rfl,rfl,by go_num,HX.o.1,by omega,by have h1:=vm.o;have h2:=Et.o;simp at h2;rw[List.length_append];omega,bS.o,HX.o.2⟩
           |false=>
            have pF:=Ux (of_decide_eq_false yO.o.symm);have hstep:(S.step cr at' p).2=0:=by rw[jU.o]
            have pD:=Ux hstep;clear hstep;by_cases gM:n2.kind=1
            ·have q2:(n2.kind != 1)=false:=by simpa using gM
             have HD:=Ux (show¬(n2.kind≠1∧(l≠[]∨must=true)) from fun h=>h.1 gM);clear gM
             cases lb with
             |true=>
              have fk:l=[]:=of_decide_eq_true BG.o.symm;have bS:=Ux (HE.o.trans (mI pD.o K7.o Er.o pF.o HD.o fk));rw[jU.o] at bS;have xS:=kO.o;obtain⟨fc,ff,fz⟩:=(lI.o.an eK.o).facts;go_wp2_with (first|exact bodyPost_ret (aU (x:=⟨at',str p,ov,must⟩) (e:=0) (lI.o.an eK.o).dA rfl rfl) rfl ⟨by rw[bS.o],aC (cB.o.trans (eK.o.mono cB.o.size)) (Nat.le_succ _)⟩|exact bM (aU (x:=⟨at',str p,ov,must⟩) (e:=0) (lI.o.an eK.o).dA rfl rfl) ⟨by rw[bS.o],aC (cB.o.trans (eK.o.mono cB.o.size)) (Nat.le_succ _)⟩)
             |false=>
              have fk:l≠[]:=of_decide_eq_false BG.o.symm;have bS:=Ux (HE.o.trans (DQ pD.o K7.o Er.o pF.o HD.o fk));rw[jU.o] at bS;have xS:=kO.o;clear fk;go_wp2_with fail;go_roundw
              case measure=>simp[intOf,pQ]
              case rel=>exact⟨_,l,must,hp,ta2,m,tc2,rfl,rfl,rfl,rfl,Rc.o,QG,by have:=Et.o;simp at this;omega,bS.o,eK.o⟩
            ·have q2:(n2.kind != 1)=true:=by simpa using gM
             have HK2:=Ux gM;clear gM
             cases lb with
             |false=>
              have fk:l≠[]:=of_decide_eq_false BG.o.symm;have bS:=Ux (HE.o.trans (mJ pD.o K7.o Er.o pF.o ⟨HK2.o,.inl fk⟩));clear fk;obtain⟨fc,ff,fz⟩:=(lI.o.an eK.o).facts;go_wp2_with (first|exact bodyPost_ret (aU (x:=gS) (e:=9) (lI.o.an eK.o).dA rfl rfl) rfl ⟨by rw[bS.o],aC (cB.o.trans (eK.o.mono cB.o.size)) (Nat.le_succ _)⟩|exact bM (aU (x:=gS) (e:=9) (lI.o.an eK.o).dA rfl rfl) ⟨by rw[bS.o],aC (cB.o.trans (eK.o.mono cB.o.size)) (Nat.le_succ _)⟩)
             |true=>
              have fk:l=[]:=of_decide_eq_true BG.o.symm
              cases must with
              |true=>
               have bS:=Ux (HE.o.trans (mJ pD.o K7.o Er.o pF.o ⟨HK2.o,.inr rfl⟩));clear fk;obtain⟨fc,ff,fz⟩:=(lI.o.an eK.o).facts;go_wp2_with (first|exact bodyPost_ret (aU (x:=gS) (e:=9) (lI.o.an eK.o).dA rfl rfl) rfl ⟨by rw[bS.o],aC (cB.o.trans (eK.o.mono cB.o.size)) (Nat.le_succ _)⟩|exact bM (aU (x:=gS) (e:=9) (lI.o.an eK.o).dA rfl rfl) ⟨by rw[bS.o],aC (cB.o.trans (eK.o.mono cB.o.size)) (Nat.le_succ _)⟩)
              |false=>
               have bS:=Ux (HE.o.trans (mI pD.o K7.o Er.o pF.o (fun h=>h.2.elim (fun h=>h fk) (fun h=>by cases h)) fk));rw[jU.o] at bS;have xS:=kO.o;clear fk;obtain⟨fc,ff,fz⟩:=(lI.o.an eK.o).facts;go_wp2_with (first|exact bodyPost_ret (aU (x:=⟨at',str p,ov,false⟩) (e:=0) (lI.o.an eK.o).dA rfl rfl) rfl ⟨by rw[bS.o],aC (cB.o.trans (eK.o.mono cB.o.size)) (Nat.le_succ _)⟩|exact bM (aU (x:=⟨at',str p,ov,false⟩) (e:=0) (lI.o.an eK.o).dA rfl rfl) ⟨by rw[bS.o],aC (cB.o.trans (eK.o.mono cB.o.size)) (Nat.le_succ _)⟩)
     ·have q1:(d.kind != 1)=true:=by simpa using gv
      have q1':(d.kind==1)=false:=by simpa using gv
      have ow:=Ux (jY.o.trans (if_pos (by simpa using gv)));have bS:=Ux (HE.o.trans (oJ (by rw[ow.o];decide)));rw[ow.o] at bS;clear gv;obtain⟨fc,ff,fz⟩:=(lI.o.an eK.o).facts;go_wp2_with (first|exact bodyPost_ret (aU (x:=gS) (e:=9) (lI.o.an eK.o).dA rfl rfl) rfl ⟨by rw[bS.o],aC (cB.o.trans (eK.o.mono cB.o.size)) (Nat.le_succ _)⟩|exact bM (aU (x:=gS) (e:=9) (lI.o.an eK.o).dA rfl rfl) ⟨by rw[bS.o],aC (cB.o.trans (eK.o.mono cB.o.size)) (Nat.le_succ _)⟩)
 ·have eA:=Ux (nj.o.trans (if_pos hpe));have hpb:(pe != 0)=true:=by simpa using hpe
  clear hpe;obtain⟨fc,ff,fz⟩:=(lI.o.an eK.o).facts;go_wp2_with (first|exact bodyPost_ret (aU (x:=gS) (e:=pe) (lI.o.an eK.o).dA rfl rfl) rfl ⟨by rw[eA.o],aC (cB.o.trans (eK.o.mono cB.o.size)) (Nat.le_succ _)⟩|exact bM (aU (x:=gS) (e:=pe) (lI.o.an eK.o).dA rfl rfl) ⟨by rw[eA.o],aC (cB.o.trans (eK.o.mono cB.o.size)) (Nat.le_succ _)⟩)
theorem nO(h:aW w pf R S){N:Nat}(hk:ay S N)(path:ByteArray)(hs:path.size≤100000)(f:Bool) :
  Calls Tryz.prog 131 #[UH (some ⟨pf,0,none⟩),UJ #[UE UL 0,UE UL 0],UF path,.bool f] w fun e w'=>e=.returned (UK #[(S.path cw path f).1.v,UE UL (S.path cw path f).2])∧UA w w':=Cp h hk cw path hs f
end
end
section
open Go.RowKit
section
variable{w w':World}{pf:Nat}{R:Rf}{S:Fs}
end
end
section
open Go
section
variable{P:Program}{ops:Array Oper}{Q:Exit→Act→World→Prop}{md:Region.Mode}{S:World→Prop}
theorem bN(i d:Nat){oi:Oper}{fuel:Nat}{listed:Array Bool}{tmps:Array Value}{defers:List Deferred}{w:World}(hr:Region.ready md ops listed=[i])(hi:ops[i]?=some oi)(hd:oi.dst=some d)
  (hw:Region.wanted oi (yielded ops tmps)=true) {f:FuncId} {args:Array Value} (he:(execOp (Act.eval {tmps,defers}) oi).run P w=.ok (.enter f args) w) {R:Value→World→Prop}
  (hc:Calls P f args w fun e w'=>∃v,e=.returned v∧R v w') (hS:∀v w',R v w'→S w')
  (h:∀v w',R v w'→wpAnyH P md ops Q S fuel (listed.setIfInBounds i true) {tmps:=tmps.setIfInBounds d v,defers} w'):wpAnyH P md ops Q S (fuel+1) listed {tmps,defers} w:=by
 refine wpAnyH_ready hr (by simp) (AllReadyH.cons hi (fun K hK=>?_) AllReadyH.nil);rw[if_pos hw];unfold Oper.wp;rw[he];refine hc.mono ?_;rintro e w' ⟨v,rfl,hR⟩;have:=h v w' hR;refine hK.out _ _ (hS v w' hR) (fun _=>?_);rw[hd];exact this
end
end
section
open Go
section
variable{P:Program}{ops:Array Oper}{Q:Exit→Act→World→Prop}{md:Region.Mode}{S:World→Prop}
theorem nA(i di j dj:Nat){oi oj:Oper}{fuel:Nat}{listed:Array Bool}{tmps:Array Value}{defers:List Deferred}{w Wi:World}{vi:Value}(hr:Region.ready md ops listed=[i,j])(hi:ops[i]?=some oi)(hj:ops[j]?=some oj)
  (hdi:oi.dst=some di) (hdj:oj.dst=some dj) (hwi:Region.wanted oi (yielded ops tmps)=true) (hwj:Region.wanted oj (yielded ops tmps)=true)
  (hei:(execOp (Act.eval {tmps,defers}) oi).run P w=.ok (.value vi) Wi) (S8:S Wi) {f:FuncId} {args:Array Value} (hej:(execOp (Act.eval {tmps,defers}) oj).run P w=.ok (.enter f args) w) {R:Value→World→Prop}
  (hc:Calls P f args w fun e w'=>∃v,e=.returned v∧R v w') (S7:∀v w',R v w'→S w')
  (h1:wpAnyH P md ops Q S fuel (listed.setIfInBounds i true) {tmps:=tmps.setIfInBounds di vi,defers} Wi)
  (h2:∀v w',R v w'→wpAnyH P md ops Q S fuel (listed.setIfInBounds j true) {tmps:=tmps.setIfInBounds dj v,defers} w'):wpAnyH P md ops Q S (fuel+1) listed {tmps,defers} w:=by
 refine wpAnyH_ready hr (by simp) (AllReadyH.cons hi (fun K hK=>?_) (AllReadyH.cons hj (fun K hK=>?_) AllReadyH.nil))
 ·rw[if_pos hwi];unfold Oper.wp;rw[hei];refine hK.out _ _ S8 (fun _=>?_);rw[hdi];exact h1
 ·rw[if_pos hwj];unfold Oper.wp;rw[hej];refine hc.mono ?_;rintro e w' ⟨v,rfl,hR⟩;have:=h2 v w' hR;refine hK.out _ _ (S7 v w' hR) (fun _=>?_);rw[hdj];exact this
end
end
section
open Go
section
variable{P:Program}{ops:Array Oper}{md:Region.Mode}{l:Nat}{n:Nat}{Q:Exit→Act→World→Prop}
theorem Fc{row:String}{args:Array Value}{w:World}{R:Value→World→Prop}(h:Rows P row args w R):RowsIn Fence.wide n P row args w R:=
 fun c cs _=>let⟨v,w',r,s⟩:=h c cs;⟨v,w',r,stepsIn_wide.2 s⟩
theorem FK{o:Oper}(hd:∀c,o.op≠.defer c){a:Act}{w:World}{K K':Act→World→Prop}(hK:∀a w,K a w→K' a w)(h:o.wp P a w K Q):o.wpIn (Fence.wide.inRound l) n P a w K' Q:=by
 unfold Oper.wp at h;unfold Oper.wpIn;refine⟨fun _ _=>trivial,?_⟩;rw[Fence.inRound_round,Oper.semAt_some l _ o hd];generalize (execOp a.eval o).run P w=r at *
 cases r with
 |ok m w'=>
  cases m with
  |value v=>exact hK _ _ h
  |skip=>exact hK _ _ h
  |defer d=>exact hK _ _ h
  |enter f args=>
   refine⟨fun h=>by simp[Fence.wide] at h,?_⟩;refine CallsIn.inRound l (callsIn_wide.2 (Calls.mono h fun e w'' he=>?_))
   cases e with
   |returned v=>exact hK _ _ he
   |panicked c=>exact he
   |outgrown=>exact he
  |row row args=>
   refine⟨fun h=>by simp[Fence.wide] at h,?_⟩;exact(Fc h).mono fun v w'' hv=>hK _ _ hv
  |_=>exact h.elim
 |halt x w'=>
  cases x with
  |panic v=>exact h
  |_=>exact h.elim
theorem pA(hd:rI ops=true)(hno:¬LetsOut Q):∀(fuel:Nat) (listed:Array Bool) (a:Act) (w:World),wpAny P md ops Q fuel listed a w→wpAnyIn (Fence.wide.inRound l) n P md ops Q fuel listed a w
 |0,_,_,_,h=>h
 |fuel+1,listed,a,w,h=>by
  refine⟨h.1,fun i hi=>?_⟩;have h2:=h.2 i hi;unfold wpOp at h2;unfold wpOpIn
  cases ho:ops[i]? with
  |none=>rw[ho] at h2;exact pA hd hno fuel _ _ _ h2
  |some o=>
   rw[ho] at h2;simp only at h2⊢
   split
   ·rename_i hw;rw[if_pos hw] at h2;rcases h2 with h2|⟨-,h2⟩
    ·exact FK (xL hd ho) (fun a w h=>pA hd hno fuel _ a w h) h2
    ·exact absurd h2 hno
   ·rename_i hw;rw[if_neg hw] at h2;exact⟨fun _ _=>trivial,pA hd hno fuel _ _ _ h2⟩
theorem kV{S:World→Prop}{id:Nat}{a:Act}{w:World}(hm:P.follows .mixedOrders=true)(hd:rI ops=true)(hno:¬LetsOut Q)(hS:S w.drew)
  (h:S w.drew→wpAnyH P .any ops Q S ops.size (Array.replicate ops.size false) a w.drew):(Code.region id ops true).wpIn (Fence.wide.inRound l) n P Q a w:=
 wpIn_region_any hm (pA hd hno _ _ _ _ (wpAny_of_held _ _ _ _ (h hS)))
section
variable{S:World→Prop}{oi:Oper}{fuel:Nat}{listed:Array Bool}{tmps:Array Value}{defers:List Deferred}{w W:World}{v:Value}
theorem eY(i d:Nat)(hr:Region.ready md ops listed=[i])(hi:ops[i]?=some oi)(hd:oi.dst=some d)(hw:Region.wanted oi (yielded ops tmps)=true)
  (he:(execOp (Act.eval {tmps,defers}) oi).run P w=.ok (.value v) W) (hS:S W) (h:wpAnyH P md ops Q S fuel (listed.setIfInBounds i true) {tmps:=tmps.setIfInBounds d v,defers} W):wpAnyH P md ops Q S (fuel+1) listed {tmps,defers} w:=by
 refine wpAnyH_ready hr (by simp) (AllReadyH.cons hi (fun K hK=>?_) AllReadyH.nil);rw[if_pos hw];unfold Oper.wp;rw[he];refine hK.out _ _ hS (fun _=>?_);rw[hd];exact h
theorem LK(i di j dj:Nat){oj:Oper}{vj:Value}(hr:Region.ready md ops listed=[i,j])(hi:ops[i]?=some oi)(hj:ops[j]?=some oj)(hdi:oi.dst=some di)(hdj:oj.dst=some dj)
  (hwi:Region.wanted oi (yielded ops tmps)=true) (hwj:Region.wanted oj (yielded ops tmps)=true) {Wi:World}
  (hei:(execOp (Act.eval {tmps,defers}) oi).run P w=.ok (.value v) Wi) (hej:(execOp (Act.eval {tmps,defers}) oj).run P w=.ok (.value vj) W) (S8:S Wi) (S7:S W)
  (h1:wpAnyH P md ops Q S fuel (listed.setIfInBounds i true) {tmps:=tmps.setIfInBounds di v,defers} Wi) (h2:wpAnyH P md ops Q S fuel (listed.setIfInBounds j true) {tmps:=tmps.setIfInBounds dj vj,defers} W) :
  wpAnyH P md ops Q S (fuel+1) listed {tmps,defers} w:=by
 refine wpAnyH_ready hr (by simp) (AllReadyH.cons hi (fun K hK=>?_) (AllReadyH.cons hj (fun K hK=>?_) AllReadyH.nil))
 ·rw[if_pos hwi];unfold Oper.wp;rw[hei];refine hK.out _ _ S8 (fun _=>?_);rw[hdi];exact h1
 ·rw[if_pos hwj];unfold Oper.wp;rw[hej];refine hK.out _ _ S7 (fun _=>?_);rw[hdj];exact h2
theorem xx(i d:Nat){y r:Value}{s x:Operand}{t:TypeId}(hr:Region.ready md ops listed=[i])(hi:ops[i]?=some oi)(hd:oi.dst=some d)
  (hgd:oi.guard=none) (ho:oi.op=.call {callee:=.builtin .append,args:=#[s,x],argTypes:=#[t,t]}) (hs:(Act.eval {tmps,defers}) s=v) (hx:(Act.eval {tmps,defers}) x=y)
  (hrun:(Builtin.append_ #[t,t] oi.type #[v,y]).run P w=.ok r W) (hS:S W)
  (h:wpAnyH P md ops Q S fuel (listed.setIfInBounds i true) {tmps:=tmps.setIfInBounds d r,defers} W):wpAnyH P md ops Q S (fuel+1) listed {tmps,defers} w:=by
 refine eY i d hr hi hd (by simp[Region.wanted,hgd]) ?_ hS h;unfold execOp;simp only[ho,resolve,invoke,builtin,Sem.run_bind,Sem.run_pure,Result.andThen_ok,List.map_toArray,List.map_cons,List.map_nil,hs,hx,hrun]
theorem dO(i:Nat)(hr:Region.ready md ops listed=[i])(hi:ops[i]?=some oi)(hd:oi.dst=none)(hw:Region.wanted oi (yielded ops tmps)=true)
  (he:(execOp (Act.eval {tmps,defers}) oi).run P w=.ok (.skip) W) (hS:S W) (h:wpAnyH P md ops Q S fuel (listed.setIfInBounds i true) {tmps,defers} W):wpAnyH P md ops Q S (fuel+1) listed {tmps,defers} w:=by
 refine wpAnyH_ready hr (by simp) (AllReadyH.cons hi (fun K hK=>?_) AllReadyH.nil);rw[if_pos hw];unfold Oper.wp;rw[he];refine hK.out _ _ hS (fun _=>?_);rw[hd];exact h
end
end
end
section
open Go.RowKit
section
variable{P:Program}{ops:Array Oper}{Q:Exit→Act→World→Prop}{md:Region.Mode}{S:World→Prop}
theorem gx(j dj i di:Nat){oi oj:Oper}{fuel:Nat}{listed:Array Bool}{tmps:Array Value}{defers:List Deferred}{w Wi:World}{vi:Value}(hr:Region.ready md ops listed=[j,i])(hi:ops[i]?=some oi)(hj:ops[j]?=some oj)
  (hdi:oi.dst=some di) (hdj:oj.dst=some dj) (hwi:Region.wanted oi (yielded ops tmps)=true) (hwj:Region.wanted oj (yielded ops tmps)=true)
  (hei:(execOp (Act.eval {tmps,defers}) oi).run P w=.ok (.value vi) Wi) (S8:S Wi) {f:FuncId} {args:Array Value} (hej:(execOp (Act.eval {tmps,defers}) oj).run P w=.ok (.enter f args) w) {R:Value→World→Prop}
  (hc:Calls P f args w fun e w'=>∃v,e=.returned v∧R v w') (S7:∀v w',R v w'→S w')
  (h1:wpAnyH P md ops Q S fuel (listed.setIfInBounds i true) {tmps:=tmps.setIfInBounds di vi,defers} Wi)
  (h2:∀v w',R v w'→wpAnyH P md ops Q S fuel (listed.setIfInBounds j true) {tmps:=tmps.setIfInBounds dj v,defers} w'):wpAnyH P md ops Q S (fuel+1) listed {tmps,defers} w:=by
 refine wpAnyH_ready hr (by simp) (AllReadyH.cons hj (fun K hK=>?_) (AllReadyH.cons hi (fun K hK=>?_) AllReadyH.nil))
 ·rw[if_pos hwj];unfold Oper.wp;rw[hej];refine hc.mono ?_;rintro e w' ⟨v,rfl,hR⟩;have:=h2 v w' hR;refine hK.out _ _ (S7 v w' hR) (fun _=>?_);rw[hdj];exact this
 ·rw[if_pos hwi];unfold Oper.wp;rw[hei];refine hK.out _ _ S8 (fun _=>?_);rw[hdi];exact h1
end
end
section
open Go
section
variable{P:Program}{ops:Array Oper}{Q:Exit→Act→World→Prop}{md:Region.Mode}{S:World→Prop}
def xl(md:Region.Mode)(ops:Array Oper):List (Nat×Nat)→Array Bool→Bool
 | [],_=>true
 |(i,d)::l,listed=>(match ops[i]? with|some o=>decide (o.dst=some d)|none=>false)&&Region.free md ops listed i&&(Region.ready md ops listed).contains i&&xl md ops l (listed.setIfInBounds i true)
def Ca:List (Nat×Nat)→Array Bool→Array Bool
 | [],x=>x
 |(i,_)::l,x=>Ca l (x.setIfInBounds i true)
def wU(P:Program)(ops:Array Oper)(S:World→Prop)(defers:List Deferred):List (Nat×Nat)→Array Value→(Array Value→Prop)→Prop
 | [],t,K=>K t
 |(i,d)::l,t,K=>∃oi v,ops[i]?=some oi∧((Region.wanted oi (yielded ops t)=true∧∀w,S w→(execOp (Act.eval {tmps:=t,defers}) oi).run P w=.ok (.value v) w)∨(Region.wanted oi (yielded ops t)=false∧v=undef))∧wU P ops S defers l (t.setIfInBounds d v) K
theorem aF{defers:List Deferred}{i d:Nat}{l:List (Nat×Nat)}{t:Array Value}{K:Array Value→Prop}{oi:Oper}{v:Value}(h0:ops[i]?=some oi)(hw:Region.wanted oi (yielded ops t)=true)
  (hy:∀w,S w→(execOp (Act.eval {tmps:=t,defers}) oi).run P w=.ok (.value v) w) (h:wU P ops S defers l (t.setIfInBounds d v) K):wU P ops S defers ((i,d)::l) t K:=⟨oi,v,h0,.inl ⟨hw,hy⟩,h⟩
theorem aK{defers:List Deferred}{t:Array Value}{K:Array Value→Prop}(h:K t):wU P ops S defers [] t K:=h
theorem sL(hs:Region.noSelect ops=true)(hQ:∀c a (d:Nat) v w,Q (.panic c) (Act.put a (some d) v) w→Q (.panic c) a w){defers:List Deferred}{w:World}(hS:S w){fuel:Nat} :
  ∀(l:List (Nat×Nat)) (listed:Array Bool) (t:Array Value),xl md ops l listed=true→wU P ops S defers l t (fun t'=>wpAnyH P md ops Q S fuel (Ca l listed) {tmps:=t',defers} w)→wpAnyH P md ops Q S (fuel+l.length) listed {tmps:=t,defers} w
 | [],_,_,_,h=>h
 |(i,d)::l,listed,t,hB,h=>by
  obtain⟨oi,v,h0,hv,h⟩:=h;simp only[xl,h0,Bool.and_eq_true,decide_eq_true_eq] at hB;obtain⟨⟨⟨hd,hf⟩,hr⟩,hB⟩:=hB;refine wpAnyH_take h0 hs hf hr (fun c a w=>?_) hv hS ?_
  ·rw[hd];exact hQ c a d v w
  ·rw[hd];exact sL hs hQ hS l _ _ hB h
theorem aL(n:Nat)(l:List (Nat×Nat)){listed:Array Bool}{tmps:Array Value}{defers:List Deferred}{w:World}{fuel:Nat}(hB:xl md ops l listed=true)(hs:Region.noSelect ops=true)(hn:l.length=n)
  (hQ:∀c a (d:Nat) v w,Q (.panic c) (Act.put a (some d) v) w→Q (.panic c) a w) (hS:S w) (h:wU P ops S defers l tmps (fun t'=>wpAnyH P md ops Q S fuel (Ca l listed) {tmps:=t',defers} w)) :
  wpAnyH P md ops Q S (fuel+n) listed {tmps,defers} w:=by
 subst hn;exact sL hs hQ hS l listed tmps hB h
end
end
section
open Go.RowKit Go.Shelf
theorem OE.app2{w:World}{base:Nat}{v:Value}{es:List En}(h:OE w base v es)(x:En)(hl:es.length≤1000000)(hb:base≤w.heap.size) :
  ∃g cap W,(Builtin.append_ #[94,94] 94 #[v,.slice (some ⟨w.heap.size,0,none⟩) 1 1]).run Tryz.prog (w.alloc (.cells #[UF x.name,UE UL x.no] 98))=.ok (.slice (some ⟨g,0,none⟩) (es.length+1) cap) W∧
   OE W base (.slice (some ⟨g,0,none⟩) (es.length+1) cap) (es++[x])∧Mod (fun k=>v.ownBlock=some k) w W∧Below base w W:=by
 obtain⟨g,cap,W,h1,h2,h3,-⟩:=l8 Tryz.underlying94 gY rfl (by decide) h (cP x) rfl (by intro u hu;simp[cP] at hu;rcases hu with rfl|rfl<;>rfl) hl (by decide) hb;refine⟨g,cap,W,h1,?_,h3,h3.below (fun k hk=>(aH h hk).1) hb⟩;unfold OE;rw[List.length_append,List.length_singleton,List.flatMap_append];exact(by simpa using h2)
def Fs.seen(S:Fs)(e:En):En:=⟨e.name,S.aB e.no⟩
theorem tw(S:Fs)(c:Cr)(no:Int):S.cE false c no=if S.cV c no 1 4≠0 then([],S.cV c no 1 4) else((S.aI no).map S.seen,0):=by
 unfold Fs.cE;rw[if_neg (by decide)];rfl
section
variable{w w':World}{pf:Nat}{R:Rf}{S:Fs}
end
end
section
open Go.RowKit
theorem qt{N:Nat}{A B:World}{b:Nat}{vs:Array Value}{T:TypeId}(h:ax A b vs T)(ht:eL qB N fG A B):ax B b vs T:=ht.block b _ h (fun h=>h) (fun _=>rfl)
theorem Bl{N M:Nat}{w0 A B:World}(h:Below M w0 A)(ht:eL qB N fG A B)(hN:M≤N)(hM:M≤w0.heap.size):Below M w0 B:=by
 refine⟨ht.os.trans h.os,ht.tape.trans h.tape,ht.output.trans h.output,ae h.size ht.size,fun k hk=>?_⟩;obtain⟨o,ho⟩:∃o,w0.heap[k]?=some o:=⟨w0.heap[k]'(by omega),Array.getElem?_eq_getElem _⟩;have h1:=(h.block k hk).trans ho;rw[ht.block k o h1 (fun h=>h) (fun h=>by omega),ho]
end
section
open Go.RowKit Go.Shelf
attribute [local go_sem] Oper.semAt_some
def KK(B:Nat)(W:World)(ds:List Deferred):Prop:=∃Ds:List Nat,ds=Ds.map (fun D=>({target:=.collected D,args:=#[]}:Deferred))∧Ds.Nodup∧∀D∈Ds,B≤D∧W.heap[D]?=some (.deferred (some []))
theorem KK.nil(B:Nat)(W:World):KK B W []:=⟨[],rfl,List.Pairwise.nil,fun D h=>by cases h⟩
theorem uj{n:Nat}{fn:Func}{tmps:Array Value}{v:Value}{R:Ending→World→Prop}(hres:∀W,(results fn tmps).run Tryz.prog W=.ok v W) :
  ∀(Ds:List Nat) (W:World),Ds.Nodup→(∀D∈Ds,W.heap[D]?=some (.deferred (some [])))→(∀W',Mod (fun k=>k∈Ds) W W'→R (.returned v) W')→
   LeavesInM Fence.wide n Tryz.prog fn tmps R (Ds.map (fun D=>({target:=.collected D,args:=#[]}:Deferred))) .returning W
 | [],W,_,_,hR=>⟨v,hres W,hR W (Mod.refl _ _)⟩
 |D::Ds,W,hn,hD,hR=>by
  rw[List.nodup_cons] at hn;refine⟨by simp,.inl ⟨_,_,rfl,run_takeDeferred (hD D List.mem_cons_self),?_⟩⟩;refine uj hres Ds _ hn.2 (fun E hE=>?_) (fun W' hm=>hR W' ?_)
  ·have hne:E≠D:=by rintro rfl;exact hn.1 hE
   exact(World.putObj_heap_other hne).trans (hD E (List.mem_cons_of_mem _ hE))
  ·refine⟨hm.os,hm.tape,hm.output,ae (by simp) hm.size,fun k hk hnk=>?_⟩;have hne:k≠D:=fun e=>hnk (by rw[e];exact List.mem_cons_self);rw[hm.block k (by simpa using hk) (fun h=>hnk (List.mem_cons_of_mem _ h))];exact World.putObj_heap_other hne
section
variable{w w':World}{pf pw:Nat}{R:Rp}{pv:Value}{Y:Sy}
theorem Ib{R:Rp}{S:Fs}(h:bB w pw R S)(k:Int):∃a ea el ec b,aA w ea el ec a.au∧(S.get k=some a∧b=true∨(S.get k=none∧a=dD∧b=false))∧
  ∀w1,UA w w1→Calls Tryz.prog 69 #[UH (some ⟨R.pt,0,none⟩),UE UL k] w1 fun e w'=>e=.returned (UK #[UJ #[UE UL a.no,UE UL a.dev,UE UL a.kind,UE UL a.mode,UE UL a.uid,UE UL a.gid,UE UL a.mtime,UE UL a.ctime,UE UL a.ak,UE UL a.up,UF a.data,UG ea el ec],.bool b])∧UA w1 w':=by
 cases hg:S.get k with
 |none=>exact⟨dD,none,0,0,false,aA.nil w,.inr ⟨rfl,rfl,rfl⟩,fun w1 hb=>gD (h.an hb) hg⟩
 |some a=>
  obtain⟨ea,el,ec,he,hc⟩:=fF h hg;exact⟨a,ea,el,ec,true,he,.inl ⟨rfl,rfl⟩,hc⟩
theorem A1(a:Option Addr)(n c:Nat)(w:World) :
  Calls Tryz.prog 103 #[UG a n c] w fun e w'=>e=.returned (.func (.func 145) #[] #[UH (some ⟨w.heap.size,0,none⟩)])∧w'=w.alloc (.cells #[UG a n c] 94):=by
 go_enter Tryz.func103,Tryz.ntmps103;go_wp2_with fail;go_ret;exact⟨rfl,rfl⟩
end
end
section
open Go.RowKit
section
variable{w w':World}{pf pw:Nat}{R:Rp}{pv:Value}{Y:Sy}
theorem Ay(h:bm w pf pw R pv Y){N:Nat}(hk:eJ Y N)(hN:N≤900000)(u:Us)(dir:Int)(n:ByteArray)(hn:n.size≤9223372036854775807) :
  Calls Tryz.prog 100 #[UH (some ⟨pf,0,none⟩),UJ #[UE UL u.u,UE UL u.g,UF u.data],UE UL dir,UF n] w fun e w'=>
   e=.returned (UK #[UE UL (Y.dC u dir n).2.1,UE UL (Y.dC u dir n).2.2])∧iu w w' pf pw R pv (Y.dC u dir n).1:=by
 obtain⟨u,g,t⟩:=u;dsimp only;obtain⟨hX,aJ⟩:=Uz w #[UE UL u,UE UL g,UF t] 27;have HC:=Ux (fi u g t);have HO:=Ux (fun w1 (av:UA w w1)=>A8 (h.an av) hk.bK.ok (by omega) u g t dir n);have HM:=Ux (fun w1 (av:UA w w1)=>k7 (h.an av) hk.bK.ok (by omega) ⟨hk.c0,by have:=hk.cN;omega⟩ (by have:=hk.pl;omega) ⟨u,g⟩ dir n 448 hn);have HG:=Ux (fun w1 (av:UA w w1)=>iu.of h av);have HR:=Ux (show Y.dC ⟨u,g,t⟩ dir n=if(Y.fs.fg Y.dead ⟨u,g⟩ dir n).2=0∧(Y.fs.fg Y.dead ⟨u,g⟩ dir n).1=0 then Y.op (fun S now=>S.aN ⟨u,g⟩ now dir n 448) else(Y,Y.fs.fg Y.dead ⟨u,g⟩ dir n) from rfl);generalize Y.dC ⟨u,g,t⟩ dir n=rd at HR⊢;generalize Y.fs.fg Y.dead ⟨u,g⟩ dir n=r at HR HO;generalize Y.op (fun S now=>S.aN ⟨u,g⟩ now dir n 448)=q at HR HM;obtain⟨no,e1⟩:=r;dsimp only at HR HO;clear h hk;go_enter Tryz.func100,Tryz.ntmps100;go_upto_region 1 with fail;generalize w.alloc _=W0 at hX aJ⊢;have HX:=Ux hX;have bC:=Ux aJ;obtain⟨xc,xf,xz⟩:=hX.facts;clear hX aJ;go_wp2_with fail;refine(HO.o _ bC.o).mono ?_;rintro e w1 ⟨rfl,av⟩;have dX:=Ux (ar bC.o av);have HX1:=Ux (HX.o.an av);clear av xc xf xz;by_cases h0:e1=0
 ·by_cases h1:no=0
  ·have HE:=Ux (HR.o.trans (if_pos ⟨h0,h1⟩));subst h0 h1;obtain⟨xc,xf,xz⟩:=HX1.o.facts;go_wp2_with fail;refine(HC.o _).mono ?_;rintro e w2 ⟨rfl,aY⟩;have ei:=Ux (ar dX.o aY);clear aY xc xf xz;go_wp2_with fail;refine(HM.o _ ei.o).mono ?_;rintro e w3 ⟨rfl,R3,pI,iN⟩;have HG3:=Ux (show iu w w3 pf pw R pv q.1 from⟨R3,pI,(aS.aq ei.o).trans iN⟩);clear pI iN;go_wp2_with fail;go_ret2;rw[HE.o];exact⟨rfl,HG3.o⟩
  ·have MU:(no==0)=false:=by simpa using h1
   have HE:=Ux (HR.o.trans (if_neg (fun h=>h1 h.2)));subst h0;clear h1;go_wp2_with fail;go_ret2;rw[HE.o];exact⟨rfl,HG.o _ dX.o⟩
 ·have nD:(e1==0)=false:=by simpa using h0
  have HE:=Ux (HR.o.trans (if_neg (fun h=>h0 h.1)));clear h0;go_wp2_with fail;go_ret2;rw[HE.o];exact⟨rfl,HG.o _ dX.o⟩
end
end
section
open Go.RowKit
theorem yG(w:World)(a b c:Array Value)(A B C:TypeId):ax (((w.alloc (.cells a A)).alloc (.cells b B)).alloc (.cells c C)) w.heap.size a A∧ax (((w.alloc (.cells a A)).alloc (.cells b B)).alloc (.cells c C)) (w.heap.size+1) b B∧ax (((w.alloc (.cells a A)).alloc (.cells b B)).alloc (.cells c C)) (w.heap.size+1+1) c C∧UA w (((w.alloc (.cells a A)).alloc (.cells b B)).alloc (.cells c C)):=by
 refine⟨((ax.new w a A).bI _).bI _,?_,?_,ao (ao (ao (UB w) _) _) _⟩
 ·have:=(ax.new (w.alloc (.cells a A)) b B).bI (.cells c C)
  rwa [World.size_alloc] at this
 ·have:=ax.new ((w.alloc (.cells a A)).alloc (.cells b B)) c C
  rwa [World.size_alloc,World.size_alloc] at this
section
variable{w w' w'':World}{pf pw:Nat}{R R':Rp}{pv:Value}{Y Z:Sy}
theorem iu.eS(h:iu w w' pf pw R pv Z){B:Nat}{vs:Array Value}(hB:ax w' B vs 48)(hw:w.heap.size≤B)(v0 v1 v2 v3 v4 v5 v6:Value) :
  iu w (((((((w'.setCell ⟨B,0,none⟩ v0).setCell ⟨B,1,none⟩ v1).setCell ⟨B,2,none⟩ v2).setCell ⟨B,3,none⟩ v3).setCell ⟨B,4,none⟩ v4).setCell ⟨B,5,none⟩ v5).setCell ⟨B,6,none⟩ v6) pf pw R pv Z:=by
 obtain⟨R',h1,h2⟩:=h;have hm:Mod (fun k=>k=B) w' (((((((w'.setCell ⟨B,0,none⟩ v0).setCell ⟨B,1,none⟩ v1).setCell ⟨B,2,none⟩ v2).setCell ⟨B,3,none⟩ v3).setCell ⟨B,4,none⟩ v4).setCell ⟨B,5,none⟩ v5).setCell ⟨B,6,none⟩ v6):=
  (((((((Mod.refl (fun k=>k=B) w').setCell (a:=⟨B,0,none⟩) (.inl rfl) v0).setCell (a:=⟨B,1,none⟩) (.inl rfl) v1).setCell (a:=⟨B,2,none⟩) (.inl rfl) v2).setCell (a:=⟨B,3,none⟩) (.inl rfl) v3).setCell (a:=⟨B,4,none⟩) (.inl rfl) v4).setCell (a:=⟨B,5,none⟩) (.inl rfl) v5).setCell (a:=⟨B,6,none⟩) (.inl rfl) v6
 exact⟨R',h1.other hB (by decide) (by decide) (by decide) (by decide) hm,((((((h2.j3 hw 0 v0).j3 hw 1 v1).j3 hw 2 v2).j3 hw 3 v3).j3 hw 4 v4).j3 hw 5 v5).j3 hw 6 v6⟩
theorem jP{tmps:Array Value}{W:World}{B:Nat}{x:Cn}{e:Int}(hb:ax W B #[UF x.path,UE UL x.dir,UE UL x.info,UE UL x.files,UE UL x.out,UE UL x.jC,UF x.top] 48)
  (h8:tmps.getD 6 undef=UH (some ⟨B,0,none⟩)) (h9:tmps.getD 7 undef=UE UL e):(results Tryz.f60 tmps).run Tryz.prog W=.ok (UK #[x.v,UE UL e]) W:=by
 have q0:=hb.cell 0;have q1:=hb.cell 1;have q2:=hb.cell 2;have q3:=hb.cell 3;have q4:=hb.cell 4;have q5:=hb.cell 5;have q6:=hb.cell 6;rw[Array.getD_eq_getD_getElem?] at h8 h9;simp[results,Tryz.results60,go_sem,Cn.v,h8,h9,q0,q1,q2,q3,q4,q5,q6]
theorem LS(k:Nat)(hk:k<4):∃s,fy.drop k=s::fy.drop (k+1)∧s.size≤9223372036854775807∧∀w,(Instr.index 196 (UJ #[UF (ByteArray.mk #[105,110,102,111]),UF (ByteArray.mk #[102,105,108,101,115]),UF (ByteArray.mk #[101,120,112,117,110,103,101,100]),UF (ByteArray.mk #[109,111,118,105,110,103])]) (UE UL k)).run Tryz.prog w=.ok (UF s) w:=by
 rcases(by omega:k=0∨k=1∨k=2∨k=3) with rfl|rfl|rfl|rfl
 ·exact⟨_,rfl,by decide,fun w=>(iT _ _ _ _ w).1⟩
 ·exact⟨_,rfl,by decide,fun w=>(iT _ _ _ _ w).2.1⟩
 ·exact⟨_,rfl,by decide,fun w=>(iT _ _ _ _ w).2.2.1⟩
 ·exact⟨_,rfl,by decide,fun w=>(iT _ _ _ _ w).2.2.2⟩
theorem CH(h:bm w pf pw R pv Y){N:Nat}(hk:eJ Y N)(hN:N≤99000)(u:Us)(p:mX)(hn:p.name.size≤9223372036854775807) :
  Calls Tryz.prog 60 #[UH (some ⟨pf,0,none⟩),UJ #[UE UL u.u,UE UL u.g,UF u.data],UJ #[UE UL p.dir,UF p.name,UF p.top]] w fun e w'=>
   e=.returned (UK #[(Y.aZ u p).2.1.v,UE UL (Y.aZ u p).2.2])∧iu w w' pf pw R pv (Y.aZ u p).1:=by
 obtain⟨F9,Mz,fh,aJ⟩:=yG w #[UE UL u.u,UE UL u.g,UF u.data] #[UE UL p.dir,UF p.name,UF p.top] #[UF ⟨#[]⟩,UE UL 0,UE UL 0,UE UL 0,UE UL 0,UE UL 0,UF ⟨#[]⟩] 27 143 48;have hD:=fun w1 (av:UA w w1)=>Ay (h.an av) hk (by omega) u p.dir p.name hn;have HH:=Ux (fun w1 (av:UA w w1)=>h.an av);have HR:=Ux (show Y.aZ u p=if(Y.dC u p.dir p.name).2.2≠0 then((Y.dC u p.dir p.name).1,kr,(Y.dC u p.dir p.name).2.2) else if((Y.dC u p.dir p.name).1.et u (Y.dC u p.dir p.name).2.1 fy).2≠0 then(((Y.dC u p.dir p.name).1.et u (Y.dC u p.dir p.name).2.1 fy).1,kr,((Y.dC u p.dir p.name).1.et u (Y.dC u p.dir p.name).2.1 fy).2) else(((Y.dC u p.dir p.name).1.et u (Y.dC u p.dir p.name).2.1 fy).1,((Y.dC u p.dir p.name).1.et u (Y.dC u p.dir p.name).2.1 fy).1.fs.jO ((Y.dC u p.dir p.name).1.et u (Y.dC u p.dir p.name).2.1 fy).1.dead u p) from rfl);have Ov:=Ux (hk.dC u p.dir p.name);have Hl:=Ux (LS);generalize Y.aZ u p=rd at HR⊢;generalize Y.dC u p.dir p.name=r at HR Ov hD;obtain⟨Y1,no,e1⟩:=r;dsimp only at HR Ov hD;have HD:=Ux hD;clear h hk hD;go_enter Tryz.func60,Tryz.ntmps60;go_upto_region 1 with fail;generalize World.alloc _ _=W0 at F9 Mz fh aJ⊢;have cB:=Ux aJ;have ou:=Ux (ag F9 (ag Mz fh));obtain⟨uc,uf,uz⟩:=F9.facts;obtain⟨qc,qf,qz⟩:=Mz.facts;clear F9 Mz fh aJ;go_wp2_with fail;refine(HD.o _ cB.o).mono ?_;rintro e w1 ⟨rfl,R1,eV,wA⟩;have Sa:=HH.o _ cB.o;have JJ:=ou.o.1.sy Sa wA (by decide) (by decide);have MB:=ou.o.2.1.sy Sa wA (by decide) (by decide);have ez:=ou.o.2.2.sy Sa wA (by decide) (by decide);have Rs:=Ux (show iu w w1 pf pw R pv Y1 from⟨R1,eV,(aS.aq cB.o).trans wA⟩);have dX:=Ux (ag JJ (ag MB ez));obtain⟨rc,rf,rz⟩:=ez.facts;clear Sa eV wA JJ MB ez uc uf uz qc qf qz;by_cases h0:e1=0
 ·have nD:(e1 != 0)=false:=by simpa using h0
  have HE:=Ux (HR.o.trans (if_neg (by simpa using h0)));subst h0;clear rc rf rz;go_wp2_with fail
  go_loopw [29] (fun t29 wr=>∃(k:Nat) (Z:Sy),k≤4∧t29=UE UL k∧Y1.et u no fy=Z.et u no (fy.drop k)∧eJ Z (N+1+k)∧iu w wr pf pw R pv Z∧ax wr w.heap.size #[UE UL u.u,UE UL u.g,UF u.data] 27∧ax wr (w.heap.size+1) #[UE UL p.dir,UF p.name,UF p.top] 143∧ax wr (w.heap.size+1+1) #[UF ⟨#[]⟩,UE UL 0,UE UL 0,UE UL 0,UE UL 0,UE UL 0,UF ⟨#[]⟩] 48) (fun t29 _=>4-(intOf t29).toNat)
  case atStart=>exact⟨0,Y1,by omega,rfl,rfl,Ov.o,Rs.o,dX.o.1,dX.o.2.1,dX.o.2.2⟩
  case round=>
   obtain⟨k,Z,hk,rfl,hd,hok,hg,hu,hp,hr⟩:=hrel;obtain⟨Rk,F5,C1⟩:=hg;have HU:=Ux (ag F5 (ag C1 (ag hu (ag hp hr))));by_cases hlt:k<4
   ·obtain⟨s,ij,ib,hix⟩:=Hl.o k hlt;have G3:=Ux (Ay F5 hok (by omega) u no s ib);have Qi:=Ux (hok.dC u no s);have OG:=Ux (show Y1.et u no fy=if(Z.dC u no s).2.2≠0 then((Z.dC u no s).1,(Z.dC u no s).2.2) else(Z.dC u no s).1.et u no (fy.drop (k+1)) by rw[hd,ij];rfl);generalize Z.dC u no s=r at G3 Qi OG;obtain⟨Z2,n2,e2⟩:=r;dsimp only at G3 Qi OG;obtain⟨uc,uf,uz⟩:=hu.facts;clear F5 C1 hu hp hr hd hok ij;go_wp2_with fail;refine G3.o.mono ?_;rintro e w2 ⟨rfl,R2,xV,j7⟩;obtain⟨F5,C1,hu,hp,hr⟩:=HU.o;have hu2:=hu.sy F5 j7 (by decide) (by decide);have Me:=hp.sy F5 j7 (by decide) (by decide);have p6:=hr.sy F5 j7 (by decide) (by decide);have OC:=Ux (show iu w w2 pf pw R pv Z2 from⟨R2,xV,C1.trans j7⟩);have ei:=Ux (ag hu2 (ag Me p6));obtain⟨rc,rf,rz⟩:=p6.facts;clear F5 C1 hu hp hr hu2 Me p6 xV j7 uc uf uz hix;by_cases h2:e2=0
    ·have h2b:(e2 != 0)=false:=by simpa using h2
     have OJ:=Ux (OG.o.trans (if_neg (by simpa using h2)));subst h2;clear rc rf rz;go_wp2_with fail;go_roundw
     case measure=>simp[intOf];omega
     case rel=>exact⟨k+1,Z2,by omega,by go_num,OJ.o,Qi.o,OC.o,ei.o.1,ei.o.2.1,ei.o.2.2⟩
    ·have h2b:(e2 != 0)=true:=by simpa using h2
     have OJ:=Ux (OG.o.trans (if_pos h2));have bS:=Ux (HE.o.trans (if_pos (by rw[OJ.o];exact h2)));clear h2;go_wp2_with (exact bodyPost_ret (jP (x:=kr) (e:=e2) ei.o.2.2.eS rfl rfl) rfl ⟨by rw[bS.o,OJ.o],by rw[bS.o,OJ.o];exact OC.o.eS ei.o.2.2 (by omega) _ _ _ _ _ _ _⟩)
   ·obtain rfl:k=4:=by omega
    have qR:Y1.et u no fy=(Z,0):=hd;have kP:=Ux (show rd=(Z,Z.fs.jO Z.dead u p) by rw[HE.o,qR];rfl);have hlen:Z.fs.ns.length≤100000:=by
     have h1:=hok.bK.pl.len;have h2:=hok.bK.ok.lN;omega
    have HOp:=Ux (Gx F5 hok.bK.ok (by omega) hok.bK.pl hlen u p);unfold Cn.v at HOp;generalize Z.fs.jO Z.dead u p=o at HOp kP;obtain⟨x,e3⟩:=o;dsimp only at HOp;obtain⟨uc,uf,uz⟩:=hu.facts;obtain⟨qc,qf,qz⟩:=hp.facts;clear F5 C1 hu hp hr hd hok qR hlen;go_wp2_with fail;refine HOp.o.mono ?_;rintro e w2 ⟨rfl,aY⟩;obtain⟨F5,C1,hu,hp,hr⟩:=HU.o;have p6:=hr.an aY;have OC:=Ux (show iu w w2 pf pw R pv Z from⟨Rk,F5.an aY,C1.trans (aS.aq aY)⟩);have ei:=Ux p6;obtain⟨rc,rf,rz⟩:=p6.facts;clear F5 C1 hu hp hr p6 aY uc uf uz qc qf qz;go_wp2_with (exact bodyPost_ret (jP (x:=x) (e:=e3) ei.o.eS rfl rfl) rfl ⟨by rw[kP.o],by rw[kP.o];exact OC.o.eS ei.o (by omega) _ _ _ _ _ _ _⟩)
 ·have nD:(e1 != 0)=true:=by simpa using h0
  have HE:=Ux (HR.o.trans (if_pos h0));clear h0;go_wp2_with (exact bodyPost_ret (jP (x:=kr) (e:=e1) dX.o.2.2.eS rfl rfl) rfl ⟨by rw[HE.o],by rw[HE.o];exact Rs.o.eS dX.o.2.2 (by omega) _ _ _ _ _ _ _⟩)
end
end
section
open Go.RowKit
section
variable{w w':World}{pf pw:Nat}{R:Rp}{pv:Value}{Y:Sy}
theorem Cl(h:bm w pf pw R pv Y) :
  Calls Tryz.prog 19 #[UH (some ⟨pf,0,none⟩)] w fun e w'=>e=.returned (UE UL Y.count)∧w=w':=by
 have HN:=Ux (gK h);obtain⟨pc,-,pz⟩:=h.bD.facts;clear h;go_enter Tryz.func19,Tryz.ntmps19;go_wp2_with fail;refine HN.o.mono ?_;rintro e w1 ⟨rfl,rfl⟩;go_wp2_with fail;go_ret;exact⟨rfl,rfl⟩
theorem vJ(h:bm w pf pw R pv Y) :
  Calls Tryz.prog 61 #[UH (some ⟨pf,0,none⟩)] w fun e w'=>e=.returned (.bool Y.dead)∧w=w':=by
 have HN:=Ux (gK h);obtain⟨pc,-,pz⟩:=h.bD.facts;clear h;go_enter Tryz.func61,Tryz.ntmps61;go_wp2_with fail;refine HN.o.mono ?_;rintro e w1 ⟨rfl,rfl⟩;go_wp2_with fail;go_ret;exact⟨rfl,rfl⟩
end
end
section
open Go.RowKit
def bA:ByteArray:=⟨#[47,97]⟩
def bAX:ByteArray:=⟨#[47,97,47,120]⟩
def bBX:ByteArray:=⟨#[47,98,47,120]⟩
def bX:ByteArray:=⟨#[120]⟩
def its22:List It:=[⟨bA,1,448,5,0,9,⟨#[]⟩⟩,⟨bAX,2,0,0,0,0,bX⟩,⟨bBX,2,0,0,0,0,⟨#[]⟩⟩]
def C22:Array Value:=#[UF (ByteArray.mk #[47,97]),UE UL 1,UE UL 448,UE UL 5,UE UL 0,UE UL 9,UF (ByteArray.mk #[]),UF (ByteArray.mk #[47,97,47,120]),UE UL 2,UE UL 0,UE UL 0,UE UL 0,UE UL 0,UF (ByteArray.mk #[120]),UF (ByteArray.mk #[47,98,47,120]),UE UL 2,UE UL 0,UE UL 0,UE UL 0,UE UL 0,UF (ByteArray.mk #[])]
end
end Go.Proofs.YtabbjaomlmnnhaaGreat
