import Derived.Test.YtinflmadpnigfaaGreatDoorDY14
import Derived.Test.YtinflmadpnigfaaGreatDoorDY12
import Derived.Test.YtinflmadpnigfaaGreatDoorDY9
import Derived.Test.YtinflmadpnigfaaGreatDoorDY13
import Derived.Test.YtinflmadpnigfaaGreatDoorDY4
import Derived.Test.YtinflmadpnigfaaGreatDoorDY7
set_option linter.unusedVariables false
set_option linter.unusedSimpArgs false
set_option maxRecDepth 100000
set_option maxHeartbeats 16000000
namespace Go.Proofs.YtinflmadpnigfaaGreatDoor
section
open Go.RowKit
theorem tt(s:ByteArray)(w:World)(hs:s.size≤100000) :
  Calls Tryz.prog 187 #[.string s] w fun e w'=>e=.returned (.bool (eT s.data.toList))∧Up w w':=by
 have Re:=Um (kU s w (by omega));have hlp:=(dM 47 s.data.toList).1;have hlq:=(dM 47 s.data.toList).2;have hsz:s.data.toList.length=s.size:=Array.length_toList;have HL:=Um (tb s.data.toList);have HS:=Um (show eT s.data.toList=(eD s.data.toList==[]||eD s.data.toList==[46]||eD s.data.toList==[46,46]) from rfl);generalize eT s.data.toList=r at HS⊢;generalize eD s.data.toList=t at HL HS;generalize dB 47 s.data.toList=ls at Re hlp hlq HL;go_enter Tryz.func187,Tryz.ntmps187;go_wp2_with fail;refine Re.o.mono ?_;rintro e w1 ⟨⟨g,cap,rfl,hO⟩,ar⟩;obtain⟨g',hg',hgl,hcl⟩:=hO.at' (ls.length-1) (by omega);injection hg' with hg';injection hg' with e1;subst e1;have hlast:ls[ls.length-1]=t:=by
  have h1:=HL.o;rw[List.getLast?_eq_getElem?,List.getElem?_eq_getElem (by omega)] at h1;injection h1
 rw[hlast] at hcl;have HT:=Um (show(str t).toList=t by rw[aC,aH]);have HB:=Um ar;have hz:(0:Int)≤(ls.length:Int)-1∧(ls.length:Int)-1<(ls.length:Int)∧((ls.length:Int)-1).toNat=ls.length-1:=by omega
 obtain⟨gx,fT,J0⟩:=hz;have hwr:IntKind.i64.wrap ((ls.length:Int)-1)=(ls.length:Int)-1:=by rw[IntKind.wrap_i64];omega
 generalize str t=q at hcl HT;clear hO ar hlast;by_cases h1:t=[]
 ·have hq:q.toList=[]:=by rw[HT.o];exact h1
  have hr:r=true:=by rw[HS.o,h1];rfl
  subst hr;go_wp2_with fail;go_ret;exact⟨rfl,HB.o⟩
 ·have hq:q.toList.isEmpty=false:=by rw[HT.o];simpa using h1
  by_cases h2:t=[46]
  ·have zj:(q.toList==[46])=true:=by rw[HT.o,h2];rfl
   have hr:r=true:=by rw[HS.o,h2];rfl
   subst hr;go_wp2_with fail;go_ret;exact⟨rfl,HB.o⟩
  ·have zj:(q.toList==[46])=false:=by rw[HT.o];simpa using h2
   by_cases h3:t=[46,46]
   ·have hq3:(q.toList==[46,46])=true:=by rw[HT.o,h3];rfl
    have hr:r=true:=by rw[HS.o,h3];rfl
    subst hr;go_wp2_with fail;go_ret;exact⟨rfl,HB.o⟩
   ·have hq3:(q.toList==[46,46])=false:=by rw[HT.o];simpa using h3
    have hr:r=false:=by rw[HS.o];simp[h1,h2,h3]
    subst hr;clear h1 h2 h3;go_wp2_with fail;go_ret;exact⟨rfl,HB.o⟩
theorem aK{tmps:Array Value}{W:World}{B:Nat}{x:Fd}{e:Int}(hb:au W B #[.int .i64 x.dir,.string x.name,.int .i64 x.no,.bool x.zX] 140)
  (h8:tmps.getD 8 undef=.pointer (some ⟨B,0,none⟩)) (h9:tmps.getD 9 undef=.int .i64 e):(results Tryz.f118 tmps).run Tryz.prog W=.ok (.tuple #[x.v,.int .i64 e]) W:=by
 have q0:=hb.cell 0;have q1:=hb.cell 1;have q2:=hb.cell 2;have q3:=hb.cell 3;rw[Array.getD_eq_getD_getElem?] at h8 h9;simp only[List.getElem?_toArray,List.getElem?_cons_zero,List.getElem?_cons_succ] at q0 q1 q2 q3;simp[results,Tryz.results118,go_sem,Fd.v,h8,h9,q0,q1,q2,q3]
def qy:Value→Nat | .slice _ n _=>n|_=>0
end
section
open Go.RowKit
theorem Ml(S:Fs)(c:Cr)(at':Int)(p:List UInt8):S.step c at' p=if(S.cC at').kind≠1 then(0,9) else if(S.cC at').may c 1=false then(0,6) else if p=[46,46] then(S.aQ at',0) else if 255<p.length then(0,13) else(S.over (aN (S.cC at').aB (str p)),0):=by
 unfold Fs.step Fs.cC
 cases S.get at' with
 |none=>rfl
 |some d=>rfl
theorem xg{S:Fs}{N:Nat}(hk:av S N)(k:Int):0≤(S.cC k).mode∧(S.cC k).mode≤1023:=by
 unfold Fs.cC
 cases h:S.get k with
 |none=>exact⟨by decide,by decide⟩
 |some a=>exact(hk.get h).1.mode
section
variable{w w':World}{pf:Nat}{R:Rf}{S:Fs}
theorem tv(h:aE w pf R S){N:Nat}(hk:av S N)(cr:Cr)(path:ByteArray)(hs:path.size≤100000)(f:Bool) :
  Calls Tryz.prog 118 #[.pointer (some ⟨pf,0,none⟩),.agg #[.int .i64 cr.u,.int .i64 cr.g],.string path,.bool f] w fun e w'=>e=.returned (.tuple #[(S.path cr path f).1.v,.int .i64 (S.path cr path f).2])∧Up w w':=by
 have bO:=al (al (Uq w) (.cells #[.int .i64 cr.u,.int .i64 cr.g] 69)) (.cells #[.int .i64 0,.string ⟨#[]⟩,.int .i64 0,.bool false] 140);have hf0:=au.new (w.alloc (.cells #[.int .i64 cr.u,.int .i64 cr.g] 69)) #[.int .i64 0,.string ⟨#[]⟩,.int .i64 0,.bool false] 140;rw[World.size_alloc] at hf0;have GJ:=(au.new w #[.int .i64 cr.u,.int .i64 cr.g] 69).eE (.cells #[.int .i64 0,.string ⟨#[]⟩,.int .i64 0,.bool false] 140);have HPa:=Um (fun w=>vZ path w (by omega));have HPt:=Um (fun w=>tw path w hs);have EZ:=Um (fun w=>tt path w hs);have HH:=Um h;have HK:=Um hk;have hps:(bE path.data.toList).length≤100001:=by
  have h1:=jr path.data.toList;have h2:path.data.toList.length=path.size:=Array.length_toList;omega
 have jW:=Um (show S.path cr path f=if ed path≠0 then(gC,ed path) else S.eO cr f 8 1 (eT path.data.toList) (bE path.data.toList) from rfl);generalize S.path cr path f=Z at jW⊢;generalize ed path=pe at HPa jW;generalize eT path.data.toList=sl at EZ jW;generalize bE path.data.toList=ps at HPt jW hps;clear h hk;go_enter Tryz.func118,Tryz.ntmps118;go_upto_region 1 with fail;generalize (w.alloc (.cells #[.int .i64 cr.u,.int .i64 cr.g] 69)).alloc (.cells #[.int .i64 0,.string ⟨#[]⟩,.int .i64 0,.bool false] 140)=X0 at bO hf0 GJ⊢;have bP:=Um bO;have lE:=Um hf0;have LB:=Um GJ;clear bO hf0 GJ;go_wp2_with fail;refine(HPa.o _).mono ?_;rintro e w1 ⟨rfl,rfl⟩;have dY:=Um (Uq X0);by_cases hpe:pe=0
 ·have fX:=Um (jW.o.trans (if_neg (by simpa using hpe)));have hpb:(pe != 0)=false:=by simpa using hpe
  clear hpe;go_wp2_with fail;refine(HPt.o _).mono ?_;rintro e w2 ⟨⟨pv,rfl,hO⟩,aD⟩;obtain⟨pa,pcap,rfl,-,-⟩:=hO.len;have HSa:=Um (SA.yh hO);have B5:=Um aD;clear hO aD;go_wp2_with fail;refine(EZ.o _).mono ?_;rintro e w3 ⟨rfl,bJ⟩;have HSa3:=Um (HSa.o.ak bJ);have Rv:=Um (ao B5.o bJ);clear bJ;go_wp2_with fail
  go_loopw [11,12,13,14] (fun t11 t12 t13 t14 wr=>∃(at':Int) (l:List (List UInt8)) (must:Bool) (hp:Nat) (ta:Option Addr) (tl tc:Nat),t11=.slice ta tl tc∧t12=.bool must∧t13=.int .i64 at'∧t14=.int .i64 hp∧SA wr ta tl tc l∧hp≤8∧l.length≤100001+hp*4097∧Z=S.eO cr f (8-hp) at' must l∧Up X0 wr) (fun t11 _ _ t14 _=>(8-(intOf t14).toNat)*10000+qy t11)
  case atStart=>exact⟨1,ps,sl,0,pa,_,pcap,rfl,rfl,rfl,rfl,HSa3.o,by omega,by omega,fX.o,Rv.o⟩
  case round=>
   obtain⟨at',l,must,hp,ta,tl,tc,rfl,rfl,rfl,rfl,hS,QJ,hll,hE,hb⟩:=hrel;have hln:=hS.len;have HS:=Um hS;have HE:=Um hE;have dY:=Um hb;clear hS hE hb
   cases l with
   |nil=>
    obtain rfl:tl=0:=by simpa using hln.symm
    have cq:=Um (HE.o.trans z6);obtain⟨fc,ff,fz⟩:=(lE.o.ak dY.o).facts;go_wp2_with (first|exact bodyPost_ret (aK (x:=⟨0,ByteArray.empty,at',true⟩) (e:=0) (lE.o.ak dY.o).cO rfl rfl) rfl ⟨by rw[cq.o],aw (bP.o.trans (dY.o.mono bP.o.size)) (Nat.le_succ _)⟩|exact bp (aK (x:=⟨0,ByteArray.empty,at',true⟩) (e:=0) (lE.o.ak dY.o).cO rfl rfl) ⟨by rw[cq.o],aw (bP.o.trans (dY.o.mono bP.o.size)) (Nat.le_succ _)⟩)
   |cons p l=>
    obtain⟨m,rfl⟩:∃m,tl=m+1:=⟨l.length,by simpa using hln.symm⟩;have hlm:l.length=m:=by simpa using hln
    have rs:=Um hlm;obtain⟨b,off,rfl,hbl⟩:=HS.o.ey (Nat.succ_pos m);have hpc:wr.cell? ⟨b,off,none⟩=some (.string (str p)):=HS.o.cell rfl 0 (by simp);have Pk:m+1≤tc:=HS.o.2.1;have Pj:tc≤9223372036854775807:=HS.o.2.2.1;have zx:=Um hll;have hm8:m≤200000:=by simp at hll;omega
    clear hln hlm hll;obtain⟨lb,hlb⟩:∃x:Bool,((m:Int)+1==1)=x:=⟨_,rfl⟩;have B4:=Um (show lb=decide (l=[]) by
     rw[←hlb,←rs.o]
     cases l with
     |nil=>rfl
     |cons y l=>simp;omega)
    go_upto_region 7 with fail
    go_cut [11] (fun t11 wx=>∃(ta2:Option Addr) (tc2:Nat),t11=.slice ta2 m tc2∧SA wr ta2 m tc2 l∧wx=wr)
    case first=>
     by_cases h1:tc=1
     ·obtain rfl:m=0:=by omega
      subst h1;go_wp2_with fail;go_meet;exact⟨_,_,rfl,(show SA wr (some ⟨b,off,none⟩) 0 0 l from by have h:=HS.o.tail rfl;simpa using h),rfl⟩
     ·have Q8:¬(tc:Int)=1:=by omega
      have Lh:=Um (show SA wr (some ⟨b,off+1,none⟩) m (tc-1) l from by have h:=HS.o.tail rfl;rw[if_neg h1] at h;exact h);go_wp2_with fail;go_meet;exact⟨_,_,rfl,Lh.o,rfl⟩
    case rest=>
     obtain⟨ta2,tc2,rfl,jR,rfl⟩:=hcut;have o4:=Um jR;clear jR hpc hbl Pk Pj HS;have hbw:=bP.o.trans (dY.o.mono bP.o.size);obtain⟨da,dl,dc,hDE,hG⟩:=iu HH.o at';have HG:=Um (hG wc hbw);have HDE:=Um (hDE.gI hbw (aa _));have gr:=Um (Ml S cr at' p);have hpz:(str p).size=p.length:=aP p;have TP:=Um (show(str p).toList=p by rw[aC,aH]);unfold An.v at HG;have hmd:=xg HK.o at';obtain⟨d,hd⟩:∃d,S.cC at'=d:=⟨_,rfl⟩;rw[hd] at HG HDE gr hmd;clear hd hDE hG hbw;have lM:=Um (fun w=>kP cr d da dl dc 1 hmd (by omega) w);obtain⟨mb,hmb⟩:∃b,d.may cr 1=b:=⟨_,rfl⟩;rw[hmb] at lM gr;clear hmb hmd;unfold An.v at lM;go_wp2_with fail;refine HG.o.mono ?_;rintro e w4 ⟨rfl,dI⟩;have ax:=al (ao dY.o dI) (.cells #[.int .i64 d.no,.int .i64 d.dev,.int .i64 d.kind,.int .i64 d.mode,.int .i64 d.uid,.int .i64 d.gid,.int .i64 d.mtime,.int .i64 d.ctime,.int .i64 d.an,.int .i64 d.up,.string d.data,.slice da dl dc] 99);have wY:=au.new w4 #[.int .i64 d.no,.int .i64 d.dev,.int .i64 d.kind,.int .i64 d.mode,.int .i64 d.uid,.int .i64 d.gid,.int .i64 d.mtime,.int .i64 d.ctime,.int .i64 d.an,.int .i64 d.up,.string d.data,.slice da dl dc] 99;have b9:=al dI (.cells #[.int .i64 d.no,.int .i64 d.dev,.int .i64 d.kind,.int .i64 d.mode,.int .i64 d.uid,.int .i64 d.gid,.int .i64 d.mtime,.int .i64 d.ctime,.int .i64 d.an,.int .i64 d.up,.string d.data,.slice da dl dc] 99);go_upto_region 9 with fail;generalize w4.alloc _=X at ax wY b9⊢
     replace dY:=Um ax
     have Lh:=Um (o4.o.ak b9);have T6:=Um (HDE.o.ak b9);have OQ:=Um wY;obtain⟨dcc,dcf,dcz⟩:=wY.facts;clear dI ax wY b9 o4 HDE HG;by_cases gP:d.kind=1
     ·have q1:(d.kind != 1)=false:=by simpa using gP
      have q1':(d.kind==1)=true:=by simpa using gP
      have yX:=Um (gr.o.trans (if_neg (by simpa using gP)));obtain⟨cc,cf,cz⟩:=(LB.o.ak dY.o).facts;clear gP;go_wp2_with fail;refine(lM.o _).mono ?_;rintro e w5 ⟨rfl,b9⟩;have hC5:=ao dY.o b9
      replace dY:=Um hC5
      have sv:=Um (Lh.o.ak b9);have HDE5:=Um (T6.o.ak b9);have Dw:=OQ.o.ak b9;have HD5:=Um Dw;clear dcc dcf dcz cc cf cz;obtain⟨dcc,dcf,dcz⟩:=Dw.facts;clear b9 hC5 Dw Lh T6 OQ;have hw5:=bP.o.trans (dY.o.mono bP.o.size)
      cases mb with
      |false=>
       have cq:=Um (HE.o.trans (pg (by rw[yX.o,if_pos rfl];decide)));rw[yX.o,if_pos rfl] at cq;obtain⟨fc,ff,fz⟩:=(lE.o.ak dY.o).facts;go_wp2_with (first|exact bodyPost_ret (aK (x:=gC) (e:=6) (lE.o.ak dY.o).cO rfl rfl) rfl ⟨by rw[cq.o],aw (bP.o.trans (dY.o.mono bP.o.size)) (Nat.le_succ _)⟩|exact bp (aK (x:=gC) (e:=6) (lE.o.ak dY.o).cO rfl rfl) ⟨by rw[cq.o],aw (bP.o.trans (dY.o.mono bP.o.size)) (Nat.le_succ _)⟩)
      |true=>
       replace yX:=Um (yX.o.trans (if_neg (by simp)))
       by_cases hpp:p=[46,46]
       ·have Ht:=Um (yX.o.trans (if_pos hpp));have hpb:((str p).toList==[46,46])=true:=by rw[TP.o,hpp];rfl
        have HAb:=Um (kS (HH.o.ak hw5) HK.o at');have cq:=Um (HE.o.trans (xR (by rw[Ht.o]) hpp));rw[Ht.o] at cq;clear hpp hw5;go_wp2_with fail;refine HAb.o.mono ?_;rintro e w6 ⟨rfl,eV⟩;have HS6:=Um (sv.o.ak eV);have HC6:=Um (ao dY.o eV);clear eV dcc dcf dcz;go_wp2_with fail;go_roundw
        case measure=>simp[intOf,qy]
        case rel=>exact⟨_,l,must,hp,ta2,m,tc2,rfl,rfl,rfl,rfl,HS6.o,QJ,by have:=zx.o;simp at this;omega,cq.o,HC6.o⟩
       ·have Ht:=Um (yX.o.trans (if_neg hpp));have hpb:((str p).toList==[46,46])=false:=by rw[TP.o];simpa using hpp
        have LY:=Um hpp;clear hpp;by_cases NB:255<p.length
        ·have cq:=Um (HE.o.trans (pg (by rw[Ht.o,if_pos NB];decide)));rw[Ht.o,if_pos NB] at cq;have Tn:(255:Int)<((str p).size:Int):=by rw[hpz];omega
         obtain⟨fc,ff,fz⟩:=(lE.o.ak dY.o).facts;go_wp2_with (first|exact bodyPost_ret (aK (x:=gC) (e:=13) (lE.o.ak dY.o).cO rfl rfl) rfl ⟨by rw[cq.o],aw (bP.o.trans (dY.o.mono bP.o.size)) (Nat.le_succ _)⟩|exact bp (aK (x:=gC) (e:=13) (lE.o.ak dY.o).cO rfl rfl) ⟨by rw[cq.o],aw (bP.o.trans (dY.o.mono bP.o.size)) (Nat.le_succ _)⟩)
        ·have u':=Um (Ht.o.trans (if_neg NB));have Tn:¬(255:Int)<((str p).size:Int):=by rw[hpz];omega
         have Oa:=Um (nj d.aB da dl dc (str p) w5 HDE5.o);obtain⟨ef,hef⟩:∃x,aN d.aB (str p)=x:=⟨_,rfl⟩;rw[hef] at u' Oa;have vt:=Um (fun w1 hb=>nh (HH.o.ak (w':=w1) hb) ef);obtain⟨ov,hov⟩:∃x,S.over ef=x:=⟨_,rfl⟩;rw[hov] at u' vt;obtain⟨na,nl,nc,-,hGn⟩:=iu HH.o ov;have hnz:=sJ HK.o ov;have D9:=Um hGn;unfold An.v at D9;clear NB hef hov hGn hw5;go_wp2_with fail;refine Oa.o.mono ?_;rintro e w6 ⟨rfl,eV⟩;have hC6:=ao dY.o eV
         replace dY:=Um hC6
         have HS6:=Um (sv.o.ak eV);have hw6:=bP.o.trans (hC6.mono bP.o.size);clear eV hC6 sv dcc dcf dcz;go_wp2_with fail;refine(vt.o _ hw6).mono ?_;rintro e w7 ⟨rfl,rfl⟩;go_wp2_with fail;refine(D9.o _ hw6).mono ?_;rintro e w8 ⟨rfl,lT⟩;obtain⟨n,hn⟩:∃n,S.cC ov=n:=⟨_,rfl⟩;rw[hn] at hnz⊢;have hC8:=al (ao dY.o lT) (.cells #[.int .i64 n.no,.int .i64 n.dev,.int .i64 n.kind,.int .i64 n.mode,.int .i64 n.uid,.int .i64 n.gid,.int .i64 n.mtime,.int .i64 n.ctime,.int .i64 n.an,.int .i64 n.up,.string n.data,.slice na nl nc] 99);have hn8:=au.new w8 #[.int .i64 n.no,.int .i64 n.dev,.int .i64 n.kind,.int .i64 n.mode,.int .i64 n.uid,.int .i64 n.gid,.int .i64 n.mtime,.int .i64 n.ctime,.int .i64 n.an,.int .i64 n.up,.string n.data,.slice na nl nc] 99;have hb9:=al lT (.cells #[.int .i64 n.no,.int .i64 n.dev,.int .i64 n.kind,.int .i64 n.mode,.int .i64 n.uid,.int .i64 n.gid,.int .i64 n.mtime,.int .i64 n.ctime,.int .i64 n.an,.int .i64 n.up,.string n.data,.slice na nl nc] 99);go_upto_region 18 with fail;generalize w8.alloc _=Y at hC8 hn8 hb9⊢
         replace dY:=Um hC8
         have Hy:=Um (HS6.o.ak hb9);obtain⟨ncc,ncf,ncz⟩:=hn8.facts;have HN9:=Um hn8;clear lT hC8 hn8 hb9 HS6 hw6 D9 vt Oa lM;have HHn:=Um hn;clear hn
         cases hgn:S.get ov with
         |none=>
          rw[hgn] at hnz;have Na:(n.no==0)=true:=hnz;have Lg:=Um (show S.get (S.step cr at' p).1=none by rw[u'.o];exact hgn);clear hgn hnz
          cases lb with
          |true=>
           have dL:l=[]:=of_decide_eq_true B4.o.symm;have cq:=Um (HE.o.trans (z7 (by rw[u'.o]) LY.o Lg.o dL));obtain⟨fc,ff,fz⟩:=(lE.o.ak dY.o).facts;go_wp2_with (first|exact bodyPost_ret (aK (x:=⟨at',str p,0,must⟩) (e:=0) (lE.o.ak dY.o).cO rfl rfl) rfl ⟨by rw[cq.o],aw (bP.o.trans (dY.o.mono bP.o.size)) (Nat.le_succ _)⟩|exact bp (aK (x:=⟨at',str p,0,must⟩) (e:=0) (lE.o.ak dY.o).cO rfl rfl) ⟨by rw[cq.o],aw (bP.o.trans (dY.o.mono bP.o.size)) (Nat.le_succ _)⟩)
          |false=>
           have dL:l≠[]:=of_decide_eq_false B4.o.symm;have cq:=Um (HE.o.trans (vX (by rw[u'.o]) LY.o Lg.o dL));obtain⟨fc,ff,fz⟩:=(lE.o.ak dY.o).facts;go_wp2_with (first|exact bodyPost_ret (aK (x:=gC) (e:=5) (lE.o.ak dY.o).cO rfl rfl) rfl ⟨by rw[cq.o],aw (bP.o.trans (dY.o.mono bP.o.size)) (Nat.le_succ _)⟩|exact bp (aK (x:=gC) (e:=5) (lE.o.ak dY.o).cO rfl rfl) ⟨by rw[cq.o],aw (bP.o.trans (dY.o.mono bP.o.size)) (Nat.le_succ _)⟩)
         |some n2=>
          have hnn:n2=n:=by rw[←HHn.o,iF hgn]
          subst hnn;rw[hgn] at hnz;have Na:(n2.no==0)=false:=hnz;have fL:=Um (dx hgn);have HSy:=Um (HK.o.get hgn).1.sy;have Lg:=Um (show S.get (S.step cr at' p).1=some n2 by rw[u'.o];exact hgn);clear hgn hnz;have B0:=Um (show((n2.kind==3)&&(!lb||(must||f)))=decide (n2.kind=3∧(l≠[]∨must=true∨f=true)) by
           rw[B4.o];by_cases h1:n2.kind=3<;>by_cases h2:l=[]<;>cases must<;>cases f<;>simp[h1,h2])
          obtain⟨lk,hlk⟩:∃x,((n2.kind==3)&&(!lb||(must||f)))=x:=⟨_,rfl⟩;have Hlk:=Um hlk;rw[hlk] at B0;go_upto_region 22 with fail
          go_cut [96] (fun t96 wx=>t96=.bool lk∧wx=Y)
          case first=>
           clear hlk
           cases mD:(n2.kind==3) with
           |false=>
            have:lk=false:=by rw[←Hlk.o,mD];rfl
            subst this;go_wp2_with fail;go_meet;exact⟨rfl,rfl⟩
           |true=>
            cases lb with
            |false=>
             have:lk=true:=by rw[←Hlk.o,mD];rfl
             subst this;go_wp2_with fail;go_meet;exact⟨rfl,rfl⟩
            |true=>
             cases must with
             |true=>
              have:lk=true:=by rw[←Hlk.o,mD];rfl
              subst this;go_wp2_with fail;go_meet;exact⟨rfl,rfl⟩
             |false=>
              have:lk=f:=by rw[←Hlk.o,mD];rfl
              subst this;go_wp2_with fail;go_meet;exact⟨rfl,rfl⟩
          case rest=>
           obtain⟨rfl,rfl⟩:=hcut;clear hlk
           cases lk with
           |true=>
            have qi:=Um (of_decide_eq_true B0.o.symm);have Sw:n2.kind=3:=qi.o.1;have hsz:=HSy.o Sw;have hstep:(S.step cr at' p).2=0:=by rw[u'.o]
            have fx:=Um hstep;clear Sw hstep;by_cases hp9:hp=8
            ·subst hp9;have cq:=Um (HE.o.trans (vV fx.o LY.o Lg.o qi.o));obtain⟨fc,ff,fz⟩:=(lE.o.ak dY.o).facts;go_wp2_with (first|exact bodyPost_ret (aK (x:=gC) (e:=12) (lE.o.ak dY.o).cO rfl rfl) rfl ⟨by rw[cq.o],aw (bP.o.trans (dY.o.mono bP.o.size)) (Nat.le_succ _)⟩|exact bp (aK (x:=gC) (e:=12) (lE.o.ak dY.o).cO rfl rfl) ⟨by rw[cq.o],aw (bP.o.trans (dY.o.mono bP.o.size)) (Nat.le_succ _)⟩)
            ·have hp7:¬(8:Int)<(hp:Int)+1:=by omega
             have hq8:8-hp=(8-(hp+1))+1:=by omega
             rw[hq8] at HE;by_cases hde:n2.data.data.toList=[]
             ·have cq:=Um (HE.o.trans (vU fx.o LY.o Lg.o qi.o hde));have hde1:n2.data.toList=[]:=by rw[aC];exact hde
              clear hde;obtain⟨fc,ff,fz⟩:=(lE.o.ak dY.o).facts;go_wp2_with (first|exact bodyPost_ret (aK (x:=gC) (e:=5) (lE.o.ak dY.o).cO rfl rfl) rfl ⟨by rw[cq.o],aw (bP.o.trans (dY.o.mono bP.o.size)) (Nat.le_succ _)⟩|exact bp (aK (x:=gC) (e:=5) (lE.o.ak dY.o).cO rfl rfl) ⟨by rw[cq.o],aw (bP.o.trans (dY.o.mono bP.o.size)) (Nat.le_succ _)⟩)
             ·have cq:=Um (HE.o.trans (vW fx.o LY.o Lg.o qi.o hde));have hde1:n2.data.toList.isEmpty=false:=by rw[aC];simpa using hde
              have hpos:0<n2.data.size:=by
               have h1:n2.data.data.toList.length=n2.data.size:=Array.length_toList;rcases Nat.eq_zero_or_pos n2.data.size with h0|h0
               ·exact absurd (List.eq_nil_of_length_eq_zero (by omega)) hde
               ·exact h0
              have OO:=Um (show(n2.data.data.toList.head?=some 47)=(n2.data[0]=47) by
               have h1:n2.data.data.toList.head?=some n2.data[0]:=by
                rw[List.head?_eq_getElem?,List.getElem?_eq_getElem (by rw[Array.length_toList];exact hpos)];rfl
               rw[h1];simp)
              have N3:=Um (fun w=>tw n2.data w (by omega));have TJ:=Um (fun w=>tt n2.data w (by omega));have vI:=Um (show(bE n2.data.data.toList).length≤4097 by
               have h1:=jr n2.data.data.toList;have h2:n2.data.data.toList.length=n2.data.size:=Array.length_toList;omega)
              clear hde;obtain⟨ps2,Sl⟩:∃x,bE n2.data.data.toList=x:=⟨_,rfl⟩;obtain⟨sl2,Si⟩:∃x,eT n2.data.data.toList=x:=⟨_,rfl⟩;rw[Sl] at cq N3 vI;rw[Si] at cq TJ;clear Sl Si;have hwrap:IntKind.i64.wrap ((hp:Int)+1)=(hp:Int)+1:=by rw[IntKind.wrap_i64];omega
              obtain⟨a2,Oq⟩:∃x,(if n2.data.data.toList.head?=some 47 then(1:Int) else at')=x:=⟨_,rfl⟩;obtain⟨m2,lR⟩:∃x,(if l=[] then must||sl2 else must)=x:=⟨_,rfl⟩;rw[Oq,lR] at cq;have sg:=Um lR;obtain⟨q47,Sj⟩:∃x,(((n2.data[0]:UInt8).toNat:Int)==47)=x:=⟨_,rfl⟩;have vL:=Um (show a2=if q47=true then(1:Int) else at' by
               rw[←Oq,←Sj];by_cases qQ:n2.data[0]=47
               ·rw[if_pos (OO.o.mpr qQ),if_pos (by rw[qQ];rfl)]
               ·rw[if_neg (fun h=>qQ (OO.o.mp h)),if_neg];simp only[beq_iff_eq];intro h;exact qQ (by rw[gE];show(n2.data[0]:UInt8).toNat=47;omega))
              clear Oq lR;go_upto_region 28 with fail
              go_cut [109] (fun t109 wx=>t109=.bool q47∧wx=wc)
              case first=>
               go_wp2_with fail;go_meet;exact⟨rfl,rfl⟩
              case rest=>
               obtain⟨rfl,hwc⟩:=hcut;subst hwc;clear Sj
               go_step
               go_cut [13] (fun t13 wx=>t13=.int .i64 a2∧wx=wc)
               case first=>
                cases q47 with
                |true=>
                 obtain rfl:a2=1:=vL.o;go_wp2_with fail;go_meet;exact⟨rfl,rfl⟩
                |false=>
                 obtain rfl:a2=at':=vL.o;go_wp2_with fail;go_meet;exact⟨rfl,rfl⟩
               case rest=>
                obtain⟨rfl,hwc⟩:=hcut;subst hwc;clear vL
                cases must with
                |true=>
                 have vk:m2=true:=by rw[←sg.o];split<;>rfl
                 subst vk;go_wp2_with fail;refine(N3.o _).mono ?_;rintro e w12 ⟨⟨pv2,rfl,Be⟩,pP⟩;obtain⟨a',n',c',W,hrun,lU,hab,lW⟩:=xS Be (Hy.o.ak pP) (by have h1:=vI.o;have h2:=zx.o;simp at h2;omega) pP.size;have HR:=Um hrun;have hnl:=lU.len;rw[List.length_append,rs.o] at hnl;have HX:=Um (ag lU (ao dY.o (pP.trans lW)));clear Be pP hrun lU hab lW ncc ncf ncz;go_wp2_with (at_builtin;refine aG rfl rfl rfl rfl HR.o ?_);go_roundw
                 case measure=>have h1:=vI.o;simp[intOf,qy];omega
                 case rel=>exact⟨_,ps2++l,_,hp+1,a',n',c',rfl,rfl,rfl,by go_num,HX.o.1,by omega,by have h1:=vI.o;have h2:=zx.o;simp at h2;rw[List.length_append];omega,cq.o,HX.o.2⟩
                |false=>
                 cases lb with
                 |false=>
                  have dL:l≠[]:=of_decide_eq_false B4.o.symm;have vk:m2=false:=by rw[←sg.o,if_neg dL]
                  subst vk;clear dL;go_wp2_with fail;refine(N3.o _).mono ?_;rintro e w12 ⟨⟨pv2,rfl,Be⟩,pP⟩;obtain⟨a',n',c',W,hrun,lU,hab,lW⟩:=xS Be (Hy.o.ak pP) (by have h1:=vI.o;have h2:=zx.o;simp at h2;omega) pP.size;have HR:=Um hrun;have hnl:=lU.len;rw[List.length_append,rs.o] at hnl;have HX:=Um (ag lU (ao dY.o (pP.trans lW)));clear Be pP hrun lU hab lW ncc ncf ncz;go_wp2_with (at_builtin;refine aG rfl rfl rfl rfl HR.o ?_);go_roundw
                  case measure=>have h1:=vI.o;simp[intOf,qy];omega
                  case rel=>exact⟨_,ps2++l,_,hp+1,a',n',c',rfl,rfl,rfl,by go_num,HX.o.1,by omega,by have h1:=vI.o;have h2:=zx.o;simp at h2;rw[List.length_append];omega,cq.o,HX.o.2⟩
                 |true=>
                  have dL:l=[]:=of_decide_eq_true B4.o.symm;have vk:m2=sl2:=by rw[←sg.o,if_pos dL,Bool.false_or]
                  subst vk;clear dL;go_wp2_with fail;refine(TJ.o _).mono ?_;rintro e w11 ⟨rfl,Nq⟩
                  replace dY:=Um (ao dY.o Nq)
                  replace Hy:=Um (Hy.o.ak Nq)
                  have Sv:=HN9.o.ak Nq;clear Nq ncc ncf ncz;obtain⟨ncc,ncf,ncz⟩:=Sv.facts;clear Sv;go_wp2_with fail;refine(N3.o _).mono ?_;rintro e w12 ⟨⟨pv2,rfl,Be⟩,pP⟩;obtain⟨a',n',c',W,hrun,lU,hab,lW⟩:=xS Be (Hy.o.ak pP) (by have h1:=vI.o;have h2:=zx.o;simp at h2;omega) pP.size;have HR:=Um hrun;have hnl:=lU.len;rw[List.length_append,rs.o] at hnl;have HX:=Um (ag lU (ao dY.o (pP.trans lW)));clear Be pP hrun lU hab lW ncc ncf ncz;go_wp2_with (at_builtin;refine aG rfl rfl rfl rfl HR.o ?_);go_roundw
                  case measure=>have h1:=vI.o;simp[intOf,qy];omega
                  case rel=>exact⟨_,ps2++l,_,hp+1,a',n',c',rfl,rfl,rfl,by go_num,HX.o.1,by omega,by have h1:=vI.o;have h2:=zx.o;simp at h2;rw[List.length_append];omega,cq.o,HX.o.2⟩
           |false=>
            have qi:=Um (of_decide_eq_false B0.o.symm);have hstep:(S.step cr at' p).2=0:=by rw[u'.o]
            have fx:=Um hstep;clear hstep;by_cases ig:n2.kind=1
            ·have q2:(n2.kind != 1)=false:=by simpa using ig
             have HD:=Um (show¬(n2.kind≠1∧(l≠[]∨must=true)) from fun h=>h.1 ig);clear ig
             cases lb with
             |true=>
              have dL:l=[]:=of_decide_eq_true B4.o.symm;have cq:=Um (HE.o.trans (m' fx.o LY.o Lg.o qi.o HD.o dL));rw[u'.o] at cq;have Po:=fL.o;obtain⟨fc,ff,fz⟩:=(lE.o.ak dY.o).facts;go_wp2_with (first|exact bodyPost_ret (aK (x:=⟨at',str p,ov,must⟩) (e:=0) (lE.o.ak dY.o).cO rfl rfl) rfl ⟨by rw[cq.o],aw (bP.o.trans (dY.o.mono bP.o.size)) (Nat.le_succ _)⟩|exact bp (aK (x:=⟨at',str p,ov,must⟩) (e:=0) (lE.o.ak dY.o).cO rfl rfl) ⟨by rw[cq.o],aw (bP.o.trans (dY.o.mono bP.o.size)) (Nat.le_succ _)⟩)
             |false=>
              have dL:l≠[]:=of_decide_eq_false B4.o.symm;have cq:=Um (HE.o.trans (Eg fx.o LY.o Lg.o qi.o HD.o dL));rw[u'.o] at cq;have Po:=fL.o;clear dL;go_wp2_with fail;go_roundw
              case measure=>simp[intOf,qy]
              case rel=>exact⟨_,l,must,hp,ta2,m,tc2,rfl,rfl,rfl,rfl,Hy.o,QJ,by have:=zx.o;simp at this;omega,cq.o,dY.o⟩
            ·have q2:(n2.kind != 1)=true:=by simpa using ig
             have L2:=Um ig;clear ig
             cases lb with
             |false=>
              have dL:l≠[]:=of_decide_eq_false B4.o.symm;have cq:=Um (HE.o.trans (ng fx.o LY.o Lg.o qi.o ⟨L2.o,.inl dL⟩));clear dL;obtain⟨fc,ff,fz⟩:=(lE.o.ak dY.o).facts;go_wp2_with (first|exact bodyPost_ret (aK (x:=gC) (e:=9) (lE.o.ak dY.o).cO rfl rfl) rfl ⟨by rw[cq.o],aw (bP.o.trans (dY.o.mono bP.o.size)) (Nat.le_succ _)⟩|exact bp (aK (x:=gC) (e:=9) (lE.o.ak dY.o).cO rfl rfl) ⟨by rw[cq.o],aw (bP.o.trans (dY.o.mono bP.o.size)) (Nat.le_succ _)⟩)
             |true=>
              have dL:l=[]:=of_decide_eq_true B4.o.symm
              cases must with
              |true=>
               have cq:=Um (HE.o.trans (ng fx.o LY.o Lg.o qi.o ⟨L2.o,.inr rfl⟩));clear dL;obtain⟨fc,ff,fz⟩:=(lE.o.ak dY.o).facts;go_wp2_with (first|exact bodyPost_ret (aK (x:=gC) (e:=9) (lE.o.ak dY.o).cO rfl rfl) rfl ⟨by rw[cq.o],aw (bP.o.trans (dY.o.mono bP.o.size)) (Nat.le_succ _)⟩|exact bp (aK (x:=gC) (e:=9) (lE.o.ak dY.o).cO rfl rfl) ⟨by rw[cq.o],aw (bP.o.trans (dY.o.mono bP.o.size)) (Nat.le_succ _)⟩)
              |false=>
               have cq:=Um (HE.o.trans (m' fx.o LY.o Lg.o qi.o (fun h=>h.2.elim (fun h=>h dL) (fun h=>by cases h)) dL));rw[u'.o] at cq;have Po:=fL.o;clear dL;obtain⟨fc,ff,fz⟩:=(lE.o.ak dY.o).facts;go_wp2_with (first|exact bodyPost_ret (aK (x:=⟨at',str p,ov,false⟩) (e:=0) (lE.o.ak dY.o).cO rfl rfl) rfl ⟨by rw[cq.o],aw (bP.o.trans (dY.o.mono bP.o.size)) (Nat.le_succ _)⟩|exact bp (aK (x:=⟨at',str p,ov,false⟩) (e:=0) (lE.o.ak dY.o).cO rfl rfl) ⟨by rw[cq.o],aw (bP.o.trans (dY.o.mono bP.o.size)) (Nat.le_succ _)⟩)
     ·have q1:(d.kind != 1)=true:=by simpa using gP
      have q1':(d.kind==1)=false:=by simpa using gP
      have yX:=Um (gr.o.trans (if_pos (by simpa using gP)));have cq:=Um (HE.o.trans (pg (by rw[yX.o];decide)));rw[yX.o] at cq;clear gP;obtain⟨fc,ff,fz⟩:=(lE.o.ak dY.o).facts;go_wp2_with (first|exact bodyPost_ret (aK (x:=gC) (e:=9) (lE.o.ak dY.o).cO rfl rfl) rfl ⟨by rw[cq.o],aw (bP.o.trans (dY.o.mono bP.o.size)) (Nat.le_succ _)⟩|exact bp (aK (x:=gC) (e:=9) (lE.o.ak dY.o).cO rfl rfl) ⟨by rw[cq.o],aw (bP.o.trans (dY.o.mono bP.o.size)) (Nat.le_succ _)⟩)
 ·have fX:=Um (jW.o.trans (if_pos hpe));have hpb:(pe != 0)=true:=by simpa using hpe
  clear hpe;obtain⟨fc,ff,fz⟩:=(lE.o.ak dY.o).facts;go_wp2_with (first|exact bodyPost_ret (aK (x:=gC) (e:=pe) (lE.o.ak dY.o).cO rfl rfl) rfl ⟨by rw[fX.o],aw (bP.o.trans (dY.o.mono bP.o.size)) (Nat.le_succ _)⟩|exact bp (aK (x:=gC) (e:=pe) (lE.o.ak dY.o).cO rfl rfl) ⟨by rw[fX.o],aw (bP.o.trans (dY.o.mono bP.o.size)) (Nat.le_succ _)⟩)
theorem oz(h:aE w pf R S){N:Nat}(hk:av S N)(path:ByteArray)(hs:path.size≤100000)(f:Bool) :
  Calls Tryz.prog 118 #[.pointer (some ⟨pf,0,none⟩),.agg #[.int .i64 0,.int .i64 0],.string path,.bool f] w fun e w'=>e=.returned (.tuple #[(S.path bQ path f).1.v,.int .i64 (S.path bQ path f).2])∧Up w w':=tv h hk bQ path hs f
end
end
section
open Go.RowKit
theorem fj{tmps:Array Value}{W:World}{B:Nat}{a:An}{ea:Option Addr}{el ec:Nat}{e:Int}(hb:au W B #[.int .i64 a.no,.int .i64 a.dev,.int .i64 a.kind,.int .i64 a.mode,.int .i64 a.uid,.int .i64 a.gid,.int .i64 a.mtime,.int .i64 a.ctime,.int .i64 a.an,.int .i64 a.up,.string a.data,.slice ea el ec] 99)
  (h8:tmps.getD 10 undef=.pointer (some ⟨B,0,none⟩)) (h9:tmps.getD 11 undef=.int .i64 e):(results Tryz.f123 tmps).run Tryz.prog W=.ok (.tuple #[a.v ea el ec,.int .i64 e]) W:=by
 obtain⟨q0,q1,q2,q3,q4,q5,q6,q7,q8,q9,q10,q11⟩:=hb.eX;rw[Array.getD_eq_getD_getElem?] at h8 h9;simp[results,Tryz.results123,go_sem,An.v,h8,h9,q0,q1,q2,q3,q4,q5,q6,q7,q8,q9,q10,q11]
theorem MJ{S:Fs}{N:Nat}(hk:av S N)(c:Cr)(no kind want:Int):S.dF c no kind want=if(S.cC no).no=0 then 5 else if(S.cC no).kind≠kind then(if kind=1 then 9 else if(S.cC no).kind=1 then 8 else 1) else if(S.cC no).may c want=false then 6 else 0:=by
 unfold Fs.dF
 cases hg:S.get no with
 |none=>rw[nG hg];rfl
 |some a=>
  rw[iF hg];have h1:=(hk.get hg).2;dsimp only;rw[if_neg (show¬a.no=0 by omega)];by_cases h2:a.kind=kind
  ·rw[if_pos h2,if_neg (show¬a.kind≠kind from fun h=>h h2)]
   cases a.may c want<;>rfl
  ·rw[if_neg h2,if_pos h2]
section
variable{w w':World}{pf:Nat}{R:Rf}{S:Fs}
theorem wg(h:aE w pf R S){N:Nat}(hk:av S N)(c:Cr)(no kind want:Int)(hw:0≤want∧want≤7) :
  Calls Tryz.prog 123 #[.pointer (some ⟨pf,0,none⟩),.agg #[.int .i64 c.u,.int .i64 c.g],.int .i64 no,.int .i64 kind,.int .i64 want] w fun e w'=>((S.dF c no kind want≠0∧e=.returned (.tuple #[dh.v none 0 0,.int .i64 (S.dF c no kind want)]))∨(S.dF c no kind want=0∧∃d ea el ec,S.get no=some d∧e=.returned (.tuple #[d.v ea el ec,.int .i64 0])∧aA w ea el ec d.aB))∧Up w w':=by
 have fy:=(au.new w #[.int .i64 c.u,.int .i64 c.g] 69).eE (.cells #[.int .i64 0,.int .i64 0,.int .i64 0,.int .i64 0,.int .i64 0,.int .i64 0,.int .i64 0,.int .i64 0,.int .i64 0,.int .i64 0,.string ⟨#[]⟩,.slice none 0 0] 99);have eF:au ((w.alloc (.cells #[.int .i64 c.u,.int .i64 c.g] 69)).alloc (.cells #[.int .i64 0,.int .i64 0,.int .i64 0,.int .i64 0,.int .i64 0,.int .i64 0,.int .i64 0,.int .i64 0,.int .i64 0,.int .i64 0,.string ⟨#[]⟩,.slice none 0 0] 99)) (w.heap.size+1) #[.int .i64 0,.int .i64 0,.int .i64 0,.int .i64 0,.int .i64 0,.int .i64 0,.int .i64 0,.int .i64 0,.int .i64 0,.int .i64 0,.string ⟨#[]⟩,.slice none 0 0] 99:=by
  have:=au.new (w.alloc (.cells #[.int .i64 c.u,.int .i64 c.g] 69)) #[.int .i64 0,.int .i64 0,.int .i64 0,.int .i64 0,.int .i64 0,.int .i64 0,.int .i64 0,.int .i64 0,.int .i64 0,.int .i64 0,.string ⟨#[]⟩,.slice none 0 0] 99
  rwa [World.size_alloc] at this
 have ax:=al (al (Uq w) (.cells #[.int .i64 c.u,.int .i64 c.g] 69)) (.cells #[.int .i64 0,.int .i64 0,.int .i64 0,.int .i64 0,.int .i64 0,.int .i64 0,.int .i64 0,.int .i64 0,.int .i64 0,.int .i64 0,.string ⟨#[]⟩,.slice none 0 0] 99);obtain⟨ea,el,ec,he,hG⟩:=iu h no;have HG:=Um hG;have HQ:=Um (MJ hk c no kind want);have HZ:=Um (fun(h0:(S.cC no).no≠0)=>show∃d ea el ec,S.get no=some d∧_ from by
  rcases oP S no with⟨a,h1,h2⟩|⟨-,h2⟩
  ·exact⟨S.cC no,ea,el,ec,by rw[h2];exact h1,(⟨rfl,he⟩:(S.cC no).v ea el ec=(S.cC no).v ea el ec∧aA w ea el ec (S.cC no).aB)⟩
  ·exact absurd (by rw[h2];rfl) h0)
 have LU:=Um (fun(h0:(S.cC no).no≠0)=>show S.get no=some (S.cC no) from by
  rcases oP S no with⟨a,h1,h2⟩|⟨-,h2⟩
  ·rw[h2];exact h1
  ·exact absurd (by rw[h2];rfl) h0)
 clear HZ;have jW:=Um he;have lM:=Um (fun w=>kP c (S.cC no) ea el ec want (xg hk no) hw w);unfold An.v at HG lM;generalize S.dF c no kind want=oe at HQ⊢;generalize S.cC no=z at HG HQ LU jW lM;clear h hk hG he hw;go_enter Tryz.func123,Tryz.ntmps123;go_upto_region 1 with fail;generalize (w.alloc (.cells #[.int .i64 c.u,.int .i64 c.g] 69)).alloc (.cells #[.int .i64 0,.int .i64 0,.int .i64 0,.int .i64 0,.int .i64 0,.int .i64 0,.int .i64 0,.int .i64 0,.int .i64 0,.int .i64 0,.string ⟨#[]⟩,.slice none 0 0] 99)=W0 at eF fy ax⊢;have gh:=Um eF;have aJ:=Um ax;have Oc:=Um fy;clear eF ax fy;go_wp2_with fail;refine(HG.o _ aJ.o).mono ?_;rintro e w1 ⟨rfl,ar⟩;have l6:=(gh.o.ak ar).eE (.cells #[.int .i64 z.no,.int .i64 z.dev,.int .i64 z.kind,.int .i64 z.mode,.int .i64 z.uid,.int .i64 z.gid,.int .i64 z.mtime,.int .i64 z.ctime,.int .i64 z.an,.int .i64 z.up,.string z.data,.slice ea el ec] 99);have PS:=(Oc.o.ak ar).eE (.cells #[.int .i64 z.no,.int .i64 z.dev,.int .i64 z.kind,.int .i64 z.mode,.int .i64 z.uid,.int .i64 z.gid,.int .i64 z.mtime,.int .i64 z.ctime,.int .i64 z.an,.int .i64 z.up,.string z.data,.slice ea el ec] 99);have et:=al (ao aJ.o ar) (.cells #[.int .i64 z.no,.int .i64 z.dev,.int .i64 z.kind,.int .i64 z.mode,.int .i64 z.uid,.int .i64 z.gid,.int .i64 z.mtime,.int .i64 z.ctime,.int .i64 z.an,.int .i64 z.up,.string z.data,.slice ea el ec] 99);have jP:=au.new w1 #[.int .i64 z.no,.int .i64 z.dev,.int .i64 z.kind,.int .i64 z.mode,.int .i64 z.uid,.int .i64 z.gid,.int .i64 z.mtime,.int .i64 z.ctime,.int .i64 z.an,.int .i64 z.up,.string z.data,.slice ea el ec] 99;clear ar;go_upto_region 2 with fail;generalize w1.alloc _=Y at l6 et jP PS⊢;have vq:=Um l6;have jQ:=Um et;have T5:=Um jP;obtain⟨rc,rf,rz⟩:=l6.facts;obtain⟨dc,df,dz⟩:=jP.facts;obtain⟨cc,-,-⟩:=PS.facts;clear l6 et jP PS;by_cases h0:z.no=0
 ·have To:(z.no==0)=true:=by simpa using h0
  have HE:=Um (HQ.o.trans (if_pos h0));clear h0 HQ;go_wp2_with (exact bodyPost_ret (fj (a:=dh) vq.o.dR rfl rfl) rfl ⟨.inl ⟨by rw[HE.o];decide,by rw[HE.o]⟩,aM jQ.o (Nat.le_succ _)⟩)
 ·have To:(z.no==0)=false:=by simpa using h0
  have nO:=Um (HQ.o.trans (if_neg h0));have LW:=Um (LU.o h0);clear h0 HQ LU;by_cases h1:z.kind=kind
  ·have mH:(z.kind != kind)=false:=by simpa using h1
   have l7:=Um (nO.o.trans (if_neg (by simpa using h1)));clear h1 nO;go_wp2_with fail;refine(lM.o _).mono ?_;rintro e w5 ⟨rfl,b9⟩;have PF:=vq.o.ak b9;have NA:=T5.o.ak b9;have TO:=Um PF;have jX:=Um (ao jQ.o b9);clear rc rf rz dc df dz cc b9;obtain⟨rc,rf,rz⟩:=PF.facts;obtain⟨dc,df,dz⟩:=NA.facts;clear PF NA
   cases hm:z.may c want with
   |true=>
    have HE:=Um (l7.o.trans (if_neg (by rw[hm];decide)));clear hm;go_wp2_with (exact bodyPost_ret (fj (a:=z) (ea:=ea) (el:=el) (ec:=ec) TO.o.dR rfl rfl) rfl ⟨.inr ⟨HE.o,z,ea,el,ec,LW.o,rfl,jW.o⟩,aM jX.o (Nat.le_succ _)⟩)
   |false=>
    have HE:=Um (l7.o.trans (if_pos hm));clear hm;go_wp2_with (exact bodyPost_ret (fj (a:=dh) TO.o.dR rfl rfl) rfl ⟨.inl ⟨by rw[HE.o];decide,by rw[HE.o]⟩,aM jX.o (Nat.le_succ _)⟩)
  ·have mH:(z.kind != kind)=true:=by simpa using h1
   have l7:=Um (nO.o.trans (if_pos h1));clear h1 nO;by_cases h2:kind=1
   ·have kA:(kind==1)=true:=by simpa using h2
    have HE:=Um (l7.o.trans (if_pos h2));clear h2;go_wp2_with (exact bodyPost_ret (fj (a:=dh) vq.o.dR rfl rfl) rfl ⟨.inl ⟨by rw[HE.o];decide,by rw[HE.o]⟩,aM jQ.o (Nat.le_succ _)⟩)
   ·have kA:(kind==1)=false:=by simpa using h2
    have qq:=Um (l7.o.trans (if_neg h2));clear h2 l7;by_cases h3:z.kind=1
    ·have vF:(z.kind==1)=true:=by simpa using h3
     have HE:=Um (qq.o.trans (if_pos h3));clear h3;go_wp2_with (exact bodyPost_ret (fj (a:=dh) vq.o.dR rfl rfl) rfl ⟨.inl ⟨by rw[HE.o];decide,by rw[HE.o]⟩,aM jQ.o (Nat.le_succ _)⟩)
    ·have vF:(z.kind==1)=false:=by simpa using h3
     have HE:=Um (qq.o.trans (if_neg h3));clear h3;go_wp2_with (exact bodyPost_ret (fj (a:=dh) vq.o.dR rfl rfl) rfl ⟨.inl ⟨by rw[HE.o];decide,by rw[HE.o]⟩,aM jQ.o (Nat.le_succ _)⟩)
theorem Ai(h:aE w pf R S){N:Nat}(hk:av S N)(c:Cr)(dir:Int)(n:ByteArray) :
  Calls Tryz.prog 75 #[.pointer (some ⟨pf,0,none⟩),.agg #[.int .i64 c.u,.int .i64 c.g],.int .i64 dir,.string n] w fun e w'=>e=.returned (.tuple #[.int .i64 (S.cR false c dir n).1,.int .i64 (S.cR false c dir n).2])∧Up w w':=by
 have HO:=Um (fun w1 (ar:Up w w1)=>wg (h.ak ar) hk c dir 1 1 (by decide));have vt:=Um (fun w1 (ar:Up w w1) k=>nh (h.ak ar) k);have HR:=Um (show S.cR false c dir n=if S.dF c dir 1 1≠0 then(0,S.dF c dir 1 1) else if aN (S.dg dir) n=0 then(0,5) else(S.over (aN (S.dg dir) n),0) by unfold Fs.cR;rw[if_neg (by decide)]);generalize S.cR false c dir n=rd at HR⊢;have hbc:=al (Uq w) (.cells #[.int .i64 c.u,.int .i64 c.g] 69);clear h hk;go_enter Tryz.func75,Tryz.ntmps75;go_wp2_with fail;refine(HO.o _ hbc).mono ?_;rintro e w1 ⟨⟨h0,rfl⟩|⟨h0,d,ea,el,ec,hg,rfl,he⟩,ar⟩
 ·have HB:=Um (ao hbc ar);have HE:=Um (HR.o.trans (if_pos h0));have To:(S.dF c dir 1 1 != 0)=true:=by simpa using h0
  generalize S.dF c dir 1 1=oe at HE To⊢;unfold An.v dh;clear h0 ar hbc;go_wp2_with fail;go_ret2;rw[HE.o];exact⟨rfl,al HB.o _⟩
 ·have aD:=ao hbc ar;have hen:S.dg dir=d.aB:=by
   unfold Fs.dg;rw[hg]
  have HE:=Um (show rd=if aN d.aB n=0 then(0,5) else(S.over (aN d.aB n),0) by rw[HR.o,if_neg (by simpa using h0),hen]);have HF:=Um (fun w2 (aD:Up w1 w2)=>nj d.aB ea el ec n w2 ((he.ak ar).ak aD));obtain⟨hX,ax⟩:=Uo w1 #[.int .i64 d.no,.int .i64 d.dev,.int .i64 d.kind,.int .i64 d.mode,.int .i64 d.uid,.int .i64 d.gid,.int .i64 d.mtime,.int .i64 d.ctime,.int .i64 d.an,.int .i64 d.up,.string d.data,.slice ea el ec] 99;have cV:=Um aD;unfold An.v;clear h0 ar hbc aD hen he hg;go_upto_region 2 with fail;generalize w1.alloc _=X at hX ax⊢;have aJ:=Um ax;have vK:=Um (cV.o.trans (ax.mono cV.o.size));obtain⟨xc,xf,xz⟩:=hX.facts;clear hX ax;generalize aN d.aB n=f at HE HF;go_wp2_with fail;refine(HF.o _ aJ.o).mono ?_;rintro e w2 ⟨rfl,aD⟩;have ez:=Um (ao vK.o aD);clear aD xc xf xz;by_cases hf:f=0
  ·have fX:=Um (HE.o.trans (if_pos hf));have gd:(f==0)=true:=by simpa using hf
   clear hf;go_wp2_with fail;go_ret2;rw[fX.o];exact⟨rfl,ez.o⟩
  ·have fX:=Um (HE.o.trans (if_neg hf));have gd:(f==0)=false:=by simpa using hf
   clear hf;go_wp2_with fail;refine(vt.o _ ez.o _).mono ?_;rintro e w3 ⟨rfl,rfl⟩;go_wp2_with fail;go_ret2;rw[fX.o];exact⟨rfl,ez.o⟩
theorem FL(h:aE w pf R S){N:Nat}(hk:av S N){d:Bool}(hd:R.dd=.bool d)(c:Cr)(dir:Int)(n:ByteArray) :
  Calls Tryz.prog 40 #[.pointer (some ⟨pf,0,none⟩),.agg #[.int .i64 c.u,.int .i64 c.g],.int .i64 dir,.string n] w fun e w'=>e=.returned (.tuple #[.int .i64 (S.cR d c dir n).1,.int .i64 (S.cR d c dir n).2])∧Up w w':=by
 obtain⟨fy,ax⟩:=Uo w #[.int .i64 c.u,.int .i64 c.g] 69;have HS:=Um (fun w1 (ar:Up w w1)=>Ai (h.ak ar) hk c dir n);have hblk:=h.bd;rw[hd] at hblk;have Ba:=hblk.eE (.cells #[.int .i64 c.u,.int .i64 c.g] 69);obtain⟨pc,pf',pz⟩:=Ba.facts;obtain⟨cc,-,cz⟩:=fy.facts;clear h hk hd hblk Ba fy
 cases d with
 |true=>
  clear HS;go_enter Tryz.func40,Tryz.ntmps40;go_wp2_with fail;go_ret2;exact⟨rfl,ax⟩
 |false=>
  generalize S.cR false c dir n=rd at HS⊢;have aJ:=Um ax;clear ax;go_enter Tryz.func40,Tryz.ntmps40;go_wp2_with fail;refine(HS.o _ aJ.o).mono ?_;rintro e w1 ⟨rfl,ar⟩;have HB:=Um (ao aJ.o ar);clear ar;go_wp2_with fail;go_ret2;exact⟨rfl,HB.o⟩
theorem qE(u g:Int)(t:ByteArray)(w:World) :
  Calls Tryz.prog 33 #[.agg #[.int .i64 u,.int .i64 g,.string t]] w fun e w'=>e=.returned (.agg #[.int .i64 u,.int .i64 g])∧Up w w':=by
 go_enter Tryz.func33,Tryz.ntmps33;go_wp2_with fail
 go_returns
 exact⟨rfl,by go_grown⟩
end
end
section
open Go.RowKit
def Sy.KI(Y:Sy)(u:Us)(dir:Int)(n:ByteArray):Sy×Int×Int:=
 if(Y.fs.lQ Y.dead u.c dir n).2=0∧(Y.fs.lQ Y.dead u.c dir n).1=0 then Y.op (fun S now=>S.br u.c now dir n 448) else(Y,Y.fs.lQ Y.dead u.c dir n)
def Sy.Oz(Y:Sy)(u:Us)(dir:Int):List ByteArray→Sy×Int
 | []=>(Y,0)
 |n::l=>if(Y.KI u dir n).2.2≠0 then((Y.KI u dir n).1,(Y.KI u dir n).2.2) else(Y.KI u dir n).1.Oz u dir l
def Pc:List ByteArray:=[Es,yq,MR,MQ]
def Sy.mo(Y:Sy)(u:Us)(p:NT):Sy×Cn×Int:=
 let r:=Y.KI u p.dir p.name
 if r.2.2≠0 then(r.1,KV,r.2.2) else
 let q:=r.1.Oz u r.2.1 Pc
 if q.2≠0 then(q.1,KV,q.2) else(q.1,q.1.fs.AF q.1.dead u p)
def Sy.Cv(Y:Sy)(u:Us):List NT→Int→Sy×Bool×Cn×Int
 | [],e=>(Y,false,KV,e)
 |p::l,_=>if(Y.mo u p).2.2=0∨(Y.mo u p).1.dead=true then((Y.mo u p).1,true,(Y.mo u p).2.1,(Y.mo u p).2.2) else(Y.mo u p).1.Cv u l (Y.mo u p).2.2
def Sy.Sr(Y:Sy)(u:Us)(top:Int):List NT:=
 if(Y.fs.bL Y.dead u).2=0∧Y.fs.root (Y.fs.cC (Y.fs.bL Y.dead u).1).dev=top then[⟨(Y.fs.bL Y.dead u).1,AP,ByteArray.empty⟩] else[]
def Sy.chooseF(Y:Sy)(u:Us)(no:Int):Sy×Cn×Int:=
 let t:=Y.fs.topF no
 if t.2.2≠0 then(Y,KV,t.2.2) else
 let h:=Y.fs.bL Y.dead u
 let a:=Y.Cv u (Y.Sr u t.1) 0
 if a.2.1=true then(a.1,a.2.2) else
 let b:=a.1.Cv u (a.1.fs.Ek a.1.dead u t.1 t.2.1) a.2.2.2
 if b.2.1=true then(b.1,b.2.2) else
 if h.2≠0 then(b.1,KV,b.2.2.2) else b.1.mo u ⟨h.1,AP,ByteArray.empty⟩
structure eb(Y:Sy)(N:Nat):Prop where
 fg:qj Y.fs N
 c0:0≤Y.count
 cN:Y.count≤N
 pl:Y.bD.length≤1000
theorem eb.mono{Y:Sy}{N M:Nat}(h:eb Y N)(hM:N≤M):eb Y M:=⟨h.fg.mono hM,h.c0,by have:=h.cN;omega,h.pl⟩
theorem yS(Y:Sy):Y.change.1.count=Y.count∨Y.change.1.count=Y.count+1:=by
 unfold Sy.change
 split
 ·exact .inl rfl
 ·split<;>exact .inr rfl
theorem eb.change{Y:Sy}{N:Nat}(h:eb Y N):eb Y.change.1 (N+1):=by
 obtain⟨h1,h2,h3⟩:=eJ Y;refine⟨by rw[h1];exact h.fg.mono (by omega),?_,?_,by rw[h3];exact h.pl⟩ <;>
 ·have:=h.c0;have:=h.cN;rcases yS Y with e|e<;>rw[e]<;>omega
theorem eb.op{Y:Sy}{N:Nat}(h:eb Y N){g:Fs→Int→Fs×Int×Int}(hg:qj (g Y.fs Y.now).1 (N+1)):eb (Y.op g).1 (N+1):=by
 have hc:=h.change;unfold Sy.op
 split
 ·exact hc
 ·exact⟨hg,hc.c0,hc.cN,hc.pl⟩
structure TC(a b:An):Prop where
 kind:b.kind=a.kind
 mode:b.mode=a.mode
 uid:b.uid=a.uid
 data:b.data=a.data
 an:b.an=a.an
 aB:a.aB.length≤b.aB.length
 ctime:a.kind≠1→b.ctime=a.ctime
def Keep(S S':Fs):Prop:=∀k a,S.get k=some a→∃b,S'.get k=some b∧TC a b
end
section
open Go.RowKit
def cK(n:An)(data:ByteArray):Int:=bR 2 data.size-bR 2 n.data.size
def Fs.fill(S:Fs)(c:Cr)(now no:Int)(data:ByteArray):Fs×Int:=
 match S.get no with
 |none=>(S,5)
 |some n=>
  if n.kind=1 then(S,8) else if n.kind≠2 then(S,1) else if n.may c 2=false then(S,6) else if 1048576<data.size then(S,3) else
  match S.dev n.dev with
  |none=>(S,1)
  |some v=>
   if gZ v.b v.n v.mb v.mn (cK n data) 0≠0 then(S,gZ v.b v.n v.mb v.mn (cK n data) 0)
   else((S.aR n.dev {v with b:=v.b+cK n data}).set {n with data:=data,mtime:=now,ctime:=now},0)
def Sy.pW(Y:Sy)(c:Cr)(no:Int)(data:ByteArray):Sy×Int:=Y.nt (fun S now=>S.fill c now no data)
theorem eb.nt{Y:Sy}{N:Nat}(h:eb Y N){g:Fs→Int→Fs×Int}(hg:qj (g Y.fs Y.now).1 (N+1)):eb (Y.nt g).1 (N+1):=by
 have hc:=h.change;unfold Sy.nt
 split
 ·exact hc
 ·exact⟨hg,hc.c0,hc.cN,hc.pl⟩
theorem qj.fill{S:Fs}{N:Nat}(h:qj S N)(c:Cr)(now no:Int)(data:ByteArray):qj (S.fill c now no data).1 N:=by
 unfold Fs.fill
 split
 ·exact h
 ·rename_i n hn
  split
  ·exact h
  ·split
   ·exact h
   ·split
    ·exact h
    ·split
     ·exact h
     ·rename_i k1 k2 k3 hz
      split
      ·exact h
      ·rename_i v hv
       split
       ·exact h
       ·have hno:=dx hn;have hn':S.get n.no=some n:=by rw[hno];exact hn
        have hm:=cx hn;have ho:=(h.ok.get hn).1;refine⟨?_,?_,?_,?_,?_⟩
        ·refine(h.ok.aR (u:={v with b:=v.b+cK n data}) hv rfl).set ?_;have hD:(S.aR n.dev {v with b:=v.b+cK n data}).ds.length=S.ds.length:=by unfold Fs.aR;simp
         rw[hD];exact⟨ho.hH,ho.BB,ho.dev,ho.an,by show data.size≤_;omega,ho.mode,ho.kind,ho.nz,fun hk=>absurd hk (by show¬n.kind=3;omega)⟩
        ·exact(h.pl.aR (u:={v with b:=v.b+cK n data}) hv rfl rfl).set (b:=n) hn' rfl rfl rfl (h.pl.names n hm)
        ·exact(h.tr.aR (u:={v with b:=v.b+cK n data}) hv rfl rfl).same (n:=n) hn' rfl rfl rfl rfl rfl
        ·exact(h.wy.aR (u:={v with b:=v.b+cK n data}) hv rfl rfl).same (n:=n) hn' rfl rfl rfl rfl rfl
        ·exact Nm.set (S:=S.aR n.dev {v with b:=v.b+cK n data}) h.nm (h.nm n hm)
theorem eb.pW{Y:Sy}{N:Nat}(h:eb Y N)(c:Cr)(no:Int)(data:ByteArray):eb (Y.pW c no data).1 (N+1):=h.nt ((h.fg.fill _ _ _ _).mono (by omega))
end
section
open Go.RowKit
def Fs.lK(S:Fs)(n:An)(v:Dv)(data:ByteArray):Fs×Int:=
 if gZ v.b v.n v.mb v.mn (cK n data) 0≠0 then(S,gZ v.b v.n v.mb v.mn (cK n data) 0)
 else((S.aR n.dev {v with b:=v.b+cK n data}).set {n with data:=data},0)
theorem bh.node{w w':World}{pw:Nat}{R:Rp}{S:Fs}(h:bh w pw R S){B:Nat}{vs:Array Value}(hB:au w B vs 99)(hm:Mod (fun k=>k=B) w w'):bh w' pw R S:=
 h.mod hm (fun k o hk ho=>by
  subst hk;unfold au at hB;rw[hB] at ho;injection ho with ho;subst ho;exact⟨rfl,fun cur e=>by injection e with _ e;exact absurd e (by decide)⟩)
theorem aA.node{w w':World}{a:Option Addr}{n c:Nat}{es:List En}(he:aA w a n c es){B:Nat}{vs:Array Value}(hB:au w B vs 99)(hm:Mod (fun k=>k=B) w w'):aA w' a n c es:=
 he.eB (fun b cur hb=>hm.block b (Array.getElem?_eq_some_iff.1 hb).1 (fun e=>by
  subst e;unfold au at hB;rw[hB] at hb;injection hb with hb;injection hb with _ hb;exact absurd hb (by decide))) hm.size
section
variable{w w':World}{pw:Nat}{R:Rp}{S:Fs}
theorem E8(h:bh w pw R S){N:Nat}(hk:av S N)(no:Int)(d:An)(hg:S.get no=some d)(hkd:d.kind=2)(v:Dv)(qM:S.dev d.dev=some v)(data:ByteArray)(hs:data.size≤1048576) :
  Calls Tryz.prog 108 #[.pointer (some ⟨pw,0,none⟩),.int .i64 no,.string data] w fun e w'=>e=.returned (.int .i64 (S.lK d v data).2)∧∃R',bh w' pw R' (S.lK d v data).1∧aL (R.F pw) (R'.F pw) w w':=by
 obtain⟨hdo,hdn,-,-⟩:=hk.get hg;have HN:=Um (fun w1 (ar:Up w w1)=>gD (h.ak ar) hk.d1);obtain⟨ea,el,ec,he,hG⟩:=eA h hg;have HG:=Um hG;obtain⟨k,hdk⟩:∃k:Nat,d.dev=(k:Int)+1:=⟨(d.dev-1).toNat,by have:=hdo.dev.1;omega⟩;have hkl:k<S.ds.length:=by have:=hdo.dev.2;omega
 obtain⟨g,cap,hdv,hle,sI,hgl,hc,hfg,-⟩:=h.jm hk.d1;obtain⟨-,-,c2,c3,c4,c5⟩:=hc k hkl;have hv:S.ds[k]=v:=by
  unfold Fs.dev at qM;rw[if_pos (by omega),hdk,show((k:Int)+1-1).toNat=k by omega,List.getElem?_eq_getElem hkl] at qM;simpa using qM
 rw[hv] at c2 c3 c4 c5;obtain⟨pc,-,pz⟩:=h.bd.facts;rw[hdv] at pc;obtain⟨n,hn⟩:∃n,S.ds.length=n:=⟨_,rfl⟩;have hkn:k<n:=by omega
 rw[hn] at pc hle;have hda:=hdo.data;have b1:=sM 2 data.size (by omega);have b2:=sM 2 d.data.size (by omega);have cM:=Um (fun w=>oT 2 data.size (by omega) w);have cV:=Um (fun w=>oT 2 d.data.size (by omega) w);have HF:=Um (show S.lK d v data=if gZ v.b v.n v.mb v.mn (cK d data) 0≠0 then(S,gZ v.b v.n v.mb v.mn (cK d data) 0) else((S.aR d.dev {v with b:=v.b+cK d data}).set {d with data:=data},0) from rfl);generalize S.lK d v data=fw at HF⊢;unfold cK at HF;have hT:=fun w=>s5 v.b v.n v.mb v.mn (bR 2 data.size-bR 2 d.data.size) 0 w;unfold II at hT;have HQ:=Um (fun(yB:gZ v.b v.n v.mb v.mn (bR 2 data.size-bR 2 d.data.size) 0=0)=>show Cy v.b v.n v.mb v.mn (bR 2 data.size-bR 2 d.data.size) 0=v.b+(bR 2 data.size-bR 2 d.data.size)∧Cx v.b v.n v.mb v.mn (bR 2 data.size-bR 2 d.data.size) 0=v.n by unfold Cy Cx;rw[if_pos yB,if_pos yB];exact⟨rfl,by omega⟩);generalize bR 2 data.size=xa at b1 cM HF hT HQ;generalize bR 2 d.data.size=xb at b2 cV HF hT HQ;have hwx:IntKind.i64.wrap (xa-xb)=xa-xb:=by rw[IntKind.wrap_i64];omega
 obtain⟨x,hx⟩:∃x,xa-xb=x:=⟨_,rfl⟩;rw[hx] at HF hT HQ hwx;generalize gZ v.b v.n v.mb v.mn x 0=e0 at hT HF HQ;generalize Cy v.b v.n v.mb v.mn x 0=qb at hT HQ;generalize Cx v.b v.n v.mb v.mn x 0=qn at hT HQ;have HT:=Um hT;have HX:=Um hx;have HW:=Um h;have HE:=Um he;have j8:=Um hdv;have HV:=Um (show∃hk:k<S.ds.length,S.ds[k]=v from⟨hkl,hv⟩);have Iv:=Um hdk;have Ls:=Um hkd;have T1:=Um (show S.get d.no=some d by rw[hdn];exact hg);unfold An.v at HG;rw[hdk,hkd] at HG;have mixed:Tryz.prog.follows .mixedOrders=true:=by kernel_rfl
 clear h hk hg he hG hT hc hdv hv qM hn hdo hdn hda hdk hkd hkl hx;go_enter Tryz.func108,Tryz.ntmps108;go_wp2_with fail;refine(HN.o _ (al (Below.refl _ _) _)).mono ?_;rintro e w1 ⟨rfl,rfl⟩;go_wp2_with fail;refine(HG.o _ (al (Below.refl _ _) _)).mono ?_;rintro e w1 ⟨rfl,ar⟩;have hR:=(au.new w #[.int .i64 0,.int .i64 0,.int .i64 0,.int .i64 0,.int .i64 0,.int .i64 0,.int .i64 0,.int .i64 0,.int .i64 0,.int .i64 0,.string ⟨#[]⟩,.slice none 0 0] 99).ak ar;obtain⟨rc,rf,rz⟩:=hR.facts;have hX:au (((((((((((((w1.setCell ⟨w.heap.size,0,none⟩ (.int .i64 d.no)).setCell ⟨w.heap.size,1,none⟩ (.int .i64 ((k:Int)+1))).setCell ⟨w.heap.size,2,none⟩ (.int .i64 2)).setCell ⟨w.heap.size,3,none⟩ (.int .i64 d.mode)).setCell ⟨w.heap.size,4,none⟩ (.int .i64 d.uid)).setCell ⟨w.heap.size,5,none⟩ (.int .i64 d.gid)).setCell ⟨w.heap.size,6,none⟩ (.int .i64 d.mtime)).setCell ⟨w.heap.size,7,none⟩ (.int .i64 d.ctime)).setCell ⟨w.heap.size,8,none⟩ (.int .i64 d.an)).setCell ⟨w.heap.size,9,none⟩ (.int .i64 d.up)).setCell ⟨w.heap.size,10,none⟩ (.string d.data)).setCell ⟨w.heap.size,11,none⟩ (.slice ea el ec))) w.heap.size #[.int .i64 d.no,.int .i64 ((k:Int)+1),.int .i64 2,.int .i64 d.mode,.int .i64 d.uid,.int .i64 d.gid,.int .i64 d.mtime,.int .i64 d.ctime,.int .i64 d.an,.int .i64 d.up,.string d.data,.slice ea el ec] 99:=hR.dR;have ax:Up w (((((((((((((w1.setCell ⟨w.heap.size,0,none⟩ (.int .i64 d.no)).setCell ⟨w.heap.size,1,none⟩ (.int .i64 ((k:Int)+1))).setCell ⟨w.heap.size,2,none⟩ (.int .i64 2)).setCell ⟨w.heap.size,3,none⟩ (.int .i64 d.mode)).setCell ⟨w.heap.size,4,none⟩ (.int .i64 d.uid)).setCell ⟨w.heap.size,5,none⟩ (.int .i64 d.gid)).setCell ⟨w.heap.size,6,none⟩ (.int .i64 d.mtime)).setCell ⟨w.heap.size,7,none⟩ (.int .i64 d.ctime)).setCell ⟨w.heap.size,8,none⟩ (.int .i64 d.an)).setCell ⟨w.heap.size,9,none⟩ (.int .i64 d.up)).setCell ⟨w.heap.size,10,none⟩ (.string d.data)).setCell ⟨w.heap.size,11,none⟩ (.slice ea el ec))):=aM (ao (al (Below.refl _ _) _) ar) (aa _);go_upto_region 4 with fail;clear rc rf rz hR ar;generalize ((((((((((((w1.setCell ⟨w.heap.size,0,none⟩ (.int .i64 d.no)).setCell ⟨w.heap.size,1,none⟩ (.int .i64 ((k:Int)+1))).setCell ⟨w.heap.size,2,none⟩ (.int .i64 2)).setCell ⟨w.heap.size,3,none⟩ (.int .i64 d.mode)).setCell ⟨w.heap.size,4,none⟩ (.int .i64 d.uid)).setCell ⟨w.heap.size,5,none⟩ (.int .i64 d.gid)).setCell ⟨w.heap.size,6,none⟩ (.int .i64 d.mtime)).setCell ⟨w.heap.size,7,none⟩ (.int .i64 d.ctime)).setCell ⟨w.heap.size,8,none⟩ (.int .i64 d.an)).setCell ⟨w.heap.size,9,none⟩ (.int .i64 d.up)).setCell ⟨w.heap.size,10,none⟩ (.string d.data)).setCell ⟨w.heap.size,11,none⟩ (.slice ea el ec))=X at hX ax⊢;obtain⟨Bn,vE⟩:∃Bn,w.heap.size=Bn:=⟨_,rfl⟩;rw[vE] at hX⊢;obtain⟨bc,bf,bz⟩:=hX.facts;have pc1:X.cell? ⟨pw,1,none⟩=_:=(ax.cell (p:=⟨pw,1,none⟩) pz).trans (pc 1);have pO:IntKind.i64.wrap ((k:Int)+1-1)=(k:Int):=by rw[IntKind.wrap_i64];omega
 have Ih:IntKind.i64.wrap (k:Int)=(k:Int):=by rw[IntKind.wrap_i64];omega
 have bJ:(k:Int)<(n:Int):=by omega
 have dI:(0:Int)≤(k:Int):=by omega
 go_upto_region 6 with fail;refine ay 8 mixed (by kernel_rfl) dQ ?_;simp only[List.take_succ_cons,List.take_zero,List.drop_succ_cons,List.drop_zero]
 repeat still_step
 refine wpStill_nil ?_;go_upto_region 7 with fail;have vn:=hX.drew;have hbd:=ax.drew;clear bc bf bz pc1 hX ax;generalize X.drew=W at vn hbd⊢;obtain⟨bc,bf,bz⟩:=vn.facts;rw[←hbd.cell (p:=⟨g,k*6+2,none⟩) hgl] at c2;rw[←hbd.cell (p:=⟨g,k*6+3,none⟩) hgl] at c3;rw[←hbd.cell (p:=⟨g,k*6+4,none⟩) hgl] at c4;rw[←hbd.cell (p:=⟨g,k*6+5,none⟩) hgl] at c5;have pc1:W.cell? ⟨pw,0,none⟩=_:=(hbd.cell (p:=⟨pw,0,none⟩) pz).trans (pc 0);have yx:g<W.heap.size:=Nat.lt_of_lt_of_le hgl hbd.size;have QI:pw<W.heap.size:=Nat.lt_of_lt_of_le pz hbd.size;have Qf:=Um hbd;have HB:=Um vn;have QB:=Um vE;have hwx2:IntKind.i64.wrap (xa-xb)=x:=by rw[HX.o,hwx]
 clear pc hbd vn vE
 go_cut [10,11] (fun t6 t7 wx=>∃Bq:Nat,t6=.pointer (some ⟨Bq,0,none⟩)∧t7=.int .i64 e0∧au wx Bq #[.int .i64 qb,.int .i64 qn,.int .i64 v.mb,.int .i64 v.mn] 206∧Up W wx)
 case first=>
  go_wp2_with fail;have hzz:W.heap.size≤W.heap.size:=aa _
  go_region_held3 (fun w'=>(∀b o,b<W.heap.size→w'.cell? ⟨b,o,none⟩=W.cell? ⟨b,o,none⟩)∧Up W w') (first|with_reducible assumption|with_reducible exact ck _|with_reducible exact bI _|with_reducible exact bN (by assumption) (by assumption)|with_reducible exact bB (by assumption) _|with_reducible exact bu (by assumption) _|with_reducible exact bm (by assumption) (by assumption)|with_reducible exact cj (by assumption) (by assumption))
   (first|(go_at_call 170;(first|((with_reducible refine(cM.o _).mono ?_);rintro e w4 ⟨rfl,rfl⟩)|((with_reducible refine(cV.o _).mono ?_);rintro e w4 ⟨rfl,rfl⟩)))|(go_at_call 169;((with_reducible refine(HT.o _).mono ?_);rintro e w4 ⟨rfl,b9⟩;have Pg:=ae (And.right ‹(∀b o,b<W.heap.size→_)∧Up W _›).size b9.size;try (have hbq:=gj b9;obtain⟨bqc,bqf,bqz⟩:=hbq.facts))))
  all_goals
   obtain⟨-,lJ⟩:=‹_∧Up W _›;have sO:=Um lJ
   try (have zv:=Um hbq)
   clear lJ;go_wp2_with fail;go_meet;exact⟨_,rfl,rfl,by first|exact zv.o.cO|exact au.new _ _ _,sO.o⟩
 case rest=>
  obtain⟨Bq,rfl,rfl,hQ,hS⟩:=hcut;have HS:=Um hS;have oY:=Um (show Up w wc from Qf.o.trans (hS.mono Qf.o.size));by_cases h0:e0≠0
  ·have fX:=Um (HF.o.trans (if_pos h0));have o3:(e0 != 0)=true:=by simpa using h0
   clear h0;go_wp2_with fail;go_ret;rw[fX.o];exact⟨rfl,R,HW.o.ak oY.o,aL.aq oY.o⟩
  have h0:e0=0:=by simpa using h0
  obtain⟨hk,hv⟩:=HV.o;obtain⟨rfl,rfl⟩:=HQ.o h0;have fX:=Um (HF.o.trans (if_neg (by simpa using h0)));subst h0;obtain⟨qc,qf,qz⟩:=hQ.facts;have bcw:=HB.o.ak hS;rw[←hS.cell (p:=⟨g,k*6+2,none⟩) yx] at c2;rw[←hS.cell (p:=⟨g,k*6+3,none⟩) yx] at c3;rw[←hS.cell (p:=⟨g,k*6+4,none⟩) yx] at c4;rw[←hS.cell (p:=⟨g,k*6+5,none⟩) yx] at c5;have hfw:∀i,wc.frozen? ⟨g,i,none⟩=false:=fun i=>(oY.o.frozen (p:=⟨g,i,none⟩) hgl).trans (hfg i);have zo:=HW.o.ak oY.o;obtain⟨Kl,GO⟩:=zo.IW j8.o hk v hv (v.b+x) v.n;have hgF:R.F pw g:=.inr (.inr (.inr (by rw[j8.o];rfl)));have mF:aL (R.F pw) (R.F pw) wc _:=aL.dH (GO.mono (fun x hx=>by rw[hx];exact hgF));have HEq:=Um ((HE.o.ak oY.o).wd zo mF);have EJ:=bcw.wd zo mF rfl;have EX:=Um Kl;have gr:=Um ((aL.aq oY.o).trans mF);clear zo Kl GO mF pc1 hfg bc bf bz bcw;go_upto_region 11 with fail;generalize (((wc.setCell ⟨g,k*6+2,none⟩ (.int .i64 (v.b+x))).setCell ⟨g,k*6+3,none⟩ (.int .i64 v.n)).setCell ⟨g,k*6+4,none⟩ (.int .i64 v.mb)).setCell ⟨g,k*6+5,none⟩ (.int .i64 v.mn)=Z at HEq EJ EX gr⊢;have Qz:=Um EJ;obtain⟨bc,bf,bz⟩:=EJ.facts;clear c2 c3 c4 c5 hfw qc qf qz EJ;go_upto_region 12 with fail;have hm:Mod (fun k=>k=Bn) Z (Z.setCell ⟨Bn,10,none⟩ (.string data)):=(Mod.refl (fun k=>k=Bn) Z).setCell (a:=⟨Bn,10,none⟩) (.inl rfl) _;have qm:=EX.o.node Qz.o hm;have DA:=HEq.o.node Qz.o hm;have sq:aL (R.F pw) (R.F pw) w (Z.setCell ⟨Bn,10,none⟩ (.string data)):=⟨gr.o.mod.setCell (a:=⟨Bn,10,none⟩) (.inr (Nat.le_of_eq QB.o)) _,gr.o.2⟩;have jP:=Qz.o.set 10 (.string data);clear bc bf bz hm;generalize Z.setCell ⟨Bn,10,none⟩ (.string data)=Y at qm DA sq jP⊢;obtain⟨q0,q1,q2,q3,q4,q5,q6,q7,q8,q9,q10,q11⟩:=au.eX (x0:=.int .i64 d.no) jP;obtain⟨xc,-,xz⟩:=qm.bd.facts;have iE:=(qm.ak (Below.refl _ Y).drew).zY {d with data:=data} (DA.ak (Below.refl _ Y).drew) (b:=d) T1.o;unfold An.v at iE;dsimp only at iE;rw[Iv.o,Ls.o] at iE;have dW:=Um iE;have Ir:=Um sq;clear qm DA sq jP iE;refine ay 5 mixed (by kernel_rfl) dQ ?_;simp only[List.take_succ_cons,List.take_zero,List.drop_succ_cons,List.drop_zero]
  repeat still_step
  refine wpStill_nil ?_;go_wp2_with fail;refine dW.o.mono ?_;rintro e w5 ⟨rfl,R',ev,fo,-,-⟩;have xJ:=Um (ag ev fo);clear ev fo;go_wp2_with fail;go_ret;rw[fX.o,Iv.o,Ls.o];exact⟨rfl,R',xJ.o.1,(Ir.o.trans (aL.aq (Below.refl _ Y).drew)).trans xJ.o.2⟩
end
end
end Go.Proofs.YtinflmadpnigfaaGreatDoor
