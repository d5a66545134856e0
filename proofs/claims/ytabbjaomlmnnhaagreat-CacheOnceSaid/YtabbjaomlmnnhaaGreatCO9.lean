import Derived.RegionTactic
import Derived.BigRegion
import Derived.Deep.CutBlock
import Derived.Deep.DeepCutAuto
import Derived.Test.YtabbjaomlmnnhaaGreatCO7
import Derived.Test.YtabbjaomlmnnhaaGreatCO6
set_option linter.unusedVariables false
set_option linter.unusedSimpArgs false
set_option maxRecDepth 100000
set_option maxHeartbeats 16000000
namespace Go.Proofs.YtabbjaomlmnnhaaGreat
open Go.Value renaming int→UE,string→UF,slice→UG,pointer→UH,agg→UJ,tuple→UK
open Go.IntKind renaming i64→UL
section
open Go.RowKit
section
variable{w w':World}{pw:Nat}{R:Rp}{S:Fs}
theorem Mr{S:Fs}{c:Cr}{now no dir:Int}{s:ByteArray}(h:S.aX c dir s≠0):S.dV c now no dir s=(S,S.aX c dir s):=by unfold Fs.dV;rw[if_pos h]
theorem F4{S:Fs}{c:Cr}{now no dir:Int}{s:ByteArray}{d:An}(h:S.aX c dir s=0)(hg:S.get dir=some d)(hn:S.get no=none):S.dV c now no dir s=(S,5):=by
 unfold Fs.dV;rw[if_neg (by simp[h]),hg,hn]
theorem Ms{S:Fs}{c:Cr}{now no dir:Int}{s:ByteArray}{d n:An}(h:S.aX c dir s=0)(hg:S.get dir=some d)(hn:S.get no=some n):S.dV c now no dir s =
  if n.kind=1 then(S,4) else if aw d.au s≠0 then(S,7) else if n.dev≠d.dev then(S,11) else if 1000≤n.ak then(S,18)
  else((S.set {n with ak:=n.ak+1,ctime:=now}).aE now dir (aV d.au s no),0):=by
 unfold Fs.dV;rw[if_neg (by simp[h]),hg,hn]
theorem Fz{S:Fs}{c:Cr}{dir:Int}{s:ByteArray}{d:An}(h:S.aX c dir s=0)(hg:S.get dir=some d):d.kind=1:=by
 unfold Fs.aX at h;rw[hg] at h;simp only at h;by_cases hk:d.kind=1
 ·exact hk
 ·rw[if_pos hk] at h;cases h
theorem JF(h:bB w pw R S){N:Nat}(hk:ay S N)(hN:N≤999999)(c:Cr)(now no dir:Int)(s:ByteArray)(hs:s.size≤9223372036854775807) :
  Calls Tryz.prog 126 #[UH (some ⟨pw,0,none⟩),UJ #[UE UL c.u,UE UL c.g],UE UL now,UE UL no,UE UL dir,UF s] w fun e w'=>
   e=.returned (UE UL (S.dV c now no dir s).2)∧∃R',bB w' pw R' (S.dV c now no dir s).1∧aS (R.F pw) (R'.F pw) w w':=by
 have HP:=Ux (fun w1 (av:UA w w1)=>mO (h.an av) hk c dir s hs);have HW:=Ux h;have HK:=Ux hk;have mixed:Tryz.prog.follows .mixedOrders=true:=by kernel_rfl
 obtain⟨pc,-,pz⟩:=h.bD.facts;have ni:=Ux (fun w1 (av:UA w w1)=>show w1.cell? ⟨pw,0,none⟩=some (UH (some ⟨R.pt,0,none⟩)) from(av.cell (p:=⟨pw,0,none⟩) pz).trans (pc 0));clear h hk;go_enter Tryz.func126,Tryz.ntmps126;go_wp2_with fail;refine(HP.o _ (ao (Below.refl _ _) _)).mono ?_;clear HP pc pz;rintro e w1 ⟨⟨h0,rfl⟩|⟨h0,d,ea,el,ec,hg,rfl,he⟩,av⟩
 ·have aJ:=ar (ao (UB w) _) av;have HB:=Ux aJ;have HC:=Ux (Mr (now:=now) (no:=no) h0);have hz:(S.aX c dir s==0)=false:=by simpa using h0
  generalize S.aX c dir s=pe at HC hz⊢;unfold An.v dD;clear h0 av aJ;go_wp2_with fail;go_ret;rw[HC.o];exact⟨rfl,R,HW.o.an (ao HB.o _),aS.aq (ao HB.o _)⟩
 ·have aJ:=ao av (.cells #[UE UL d.no,UE UL d.dev,UE UL d.kind,UE UL d.mode,UE UL d.uid,UE UL d.gid,UE UL d.mtime,UE UL d.ctime,UE UL d.ak,UE UL d.up,UF d.data,UG ea el ec] 149);have jg:=ax.new w1 #[UE UL d.no,UE UL d.dev,UE UL d.kind,UE UL d.mode,UE UL d.uid,UE UL d.gid,UE UL d.mtime,UE UL d.ctime,UE UL d.ak,UE UL d.up,UF d.data,UG ea el ec] 149;have O8:=av.size;have HE:=Ux he;have HG:=Ux hg;have Rm:=Ux (Fz h0 hg);have H0:=Ux h0;unfold An.v;clear h0 av he hg;go_upto_region 2 with fail;generalize w1.alloc _=X at aJ jg⊢;have pcX:=ni.o X (ar (ao (Below.refl _ _) _) aJ);have bC:=Ux aJ;have BJ:=Ux jg;have hsX:w1.heap.size<X.heap.size:=jg.lt;clear aJ jg
  cases hn:S.get no with
  |none=>
   have HG0:=Ux (gD (HW.o.an (ar (ao (Below.refl _ _) _) bC.o)) hn);have HZ:=Ux (F4 (now:=now) H0.o HG.o hn);unfold An.v dD at HG0;clear hn;go_wp2_with fail;refine HG0.o.mono ?_;rintro e w2 ⟨rfl,aY⟩;have HB:=Ux (ao (bC.o.trans (aY.mono bC.o.size)) (.cells #[UE UL 0,UE UL 0,UE UL 0,UE UL 0,UE UL 0,UE UL 0,UE UL 0,UE UL 0,UE UL 0,UE UL 0,UF ByteArray.empty,UG none 0 0] 149));clear aY;go_wp2_with fail;go_ret;rw[HZ.o];exact⟨rfl,R,HW.o.an (ar (ao (Below.refl _ _) _) HB.o),aS.aq (ar (ao (Below.refl _ _) _) HB.o)⟩
  |some n=>
   obtain⟨na,nl,nc,hne,hNG⟩:=fF HW.o hn;have HNG:=Ux (hNG X (ar (ao (Below.refl _ _) _) bC.o));have HQ:=Ux (Ms (now:=now) H0.o HG.o hn);have Qp:=Ux hn;have HNE:=Ux hne;unfold An.v at HNG;clear hn hNG hne;go_wp2_with fail;refine HNG.o.mono ?_;rintro e w2 ⟨rfl,aY⟩;have eT:=ao (bC.o.trans (aY.mono bC.o.size)) (.cells #[UE UL n.no,UE UL n.dev,UE UL n.kind,UE UL n.mode,UE UL n.uid,UE UL n.gid,UE UL n.mtime,UE UL n.ctime,UE UL n.ak,UE UL n.up,UF n.data,UG na nl nc] 149);have rs:=(BJ.o.an aY).bI (.cells #[UE UL n.no,UE UL n.dev,UE UL n.kind,UE UL n.mode,UE UL n.uid,UE UL n.gid,UE UL n.mtime,UE UL n.ctime,UE UL n.ak,UE UL n.up,UF n.data,UG na nl nc] 149);have hNY:=ax.new w2 #[UE UL n.no,UE UL n.dev,UE UL n.kind,UE UL n.mode,UE UL n.uid,UE UL n.gid,UE UL n.mtime,UE UL n.ctime,UE UL n.ak,UE UL n.up,UF n.data,UG na nl nc] 149;have F0:(w.alloc (.cells #[UE UL c.u,UE UL c.g] 64)).heap.size≤w2.heap.size:=by have:=aY.size;omega
   have hne:w2.heap.size≠w1.heap.size:=by have:=aY.size;omega
   have hlk:=(HK.o.get Qp.o).1.ak;clear aY pcX;go_upto_region 5 with fail;generalize w2.alloc _=Y at eT rs hNY⊢;obtain⟨hdo,-,-,-⟩:=HK.o.get HG.o;have heY:=HE.o.an eT;have hfew:el≤1000000:=by rw[←HE.o.len];exact ae hdo.lR (by omega)
   have HF:=Ux (gO d.au ea el ec s Y heY hdo.dB hfew);have Qs:=Ux hfew;obtain⟨kc,kf,kz⟩:=hNY.facts;obtain⟨dc,df,dz⟩:=rs.facts;have nk:=Ux eT;have HDY:=Ux rs;have HNY:=Ux hNY;clear eT rs hNY heY hdo hfew;by_cases h1:n.kind=1
   ·have o8:(n.kind==1)=true:=by simpa using h1
    have HZ:=Ux (HQ.o.trans (if_pos h1));clear h1;go_wp2_with fail;go_ret;rw[HZ.o];exact⟨rfl,R,HW.o.an (ar (ao (Below.refl _ _) _) nk.o),aS.aq (ar (ao (Below.refl _ _) _) nk.o)⟩
   have o8:(n.kind==1)=false:=by simpa using h1
   have rE:=Ux (HQ.o.trans (if_neg h1));have Ov:=Ux h1;clear h1 HQ;go_wp2_with fail;refine HF.o.mono ?_;rintro e w3 ⟨rfl,cl⟩;have gn:=Ux (nk.o.trans (cl.mono nk.o.size));have OH:=Ux (HDY.o.an cl);have Qk:=Ux (HNY.o.an cl);have QW:=OH.o;have Gd:=Qk.o;clear cl kc kf kz dc df dz HF;obtain⟨kc,kf,kz⟩:=Gd.facts;obtain⟨dc,df,dz⟩:=QW.facts;clear Gd QW;by_cases hf:aw d.au s=0
   ·have hfz:(aw d.au s != 0)=false:=by simpa using hf
    have vl:=Ux (rE.o.trans (if_neg (by simp[hf])));have OD:=Ux hf;clear hf rE;generalize aw d.au s=f at hfz⊢;by_cases h2:n.dev=d.dev
    ·have kR:(n.dev != d.dev)=false:=by simpa using h2
     have GX:=Ux (vl.o.trans (if_neg (by simp[h2])));clear h2 vl;by_cases h3:1000≤n.ak
     ·have HZ:=Ux (GX.o.trans (if_pos h3));go_wp2_with fail;go_ret;rw[HZ.o];exact⟨rfl,R,HW.o.an (ar (ao (Below.refl _ _) _) gn.o),aS.aq (ar (ao (Below.refl _ _) _) gn.o)⟩
     ·have HZ:=Ux (GX.o.trans (if_neg h3));clear GX;go_wp2_with fail;have QV:=((OH.o.setOther ⟨w2.heap.size,8,none⟩ (UE UL (n.ak+1)) hne).setOther ⟨w2.heap.size,7,none⟩ (UE UL now) hne).drew;have hNZ:=(Qk.o.set 8 (UE UL (n.ak+1))).set 7 (UE UL now);have G8:Below (w.alloc (.cells #[UE UL c.u,UE UL c.g] 64)).heap.size (w.alloc (.cells #[UE UL c.u,UE UL c.g] 64)) ((w3.setCell ⟨w2.heap.size,8,none⟩ (UE UL (n.ak+1))).setCell ⟨w2.heap.size,7,none⟩ (UE UL now)):=(gn.o.setCell F0 _).setCell F0 _;generalize World.setCell _ _ _=Z at QV hNZ G8⊢;obtain⟨q0,q1,q2,q3,q4,q5,q6,q7,q8,q9,q10,q11⟩:=ax.fO (x0:=UE UL n.no) hNZ;have pc0:=ni.o Z (ar (ao (Below.refl _ _) _) G8);have Pz:=HW.o.an (ar (ao (Below.refl _ _) _) G8.drew);have ey:=Ux (Pz.xr {n with ak:=n.ak+1,ctime:=now} (HNE.o.an (ar (ao (Below.refl _ _) _) G8.drew)) (b:=n) (by rw[show({n with ak:=n.ak+1,ctime:=now}:An).no=n.no from rfl,bV Qp.o];exact Qp.o));have HWZ:=Ux Pz;have HEZ:=Ux (HE.o.an G8.drew);have HDZ:=Ux QV;have rX:=Ux G8;unfold An.v at ey;clear QV hNZ G8 Pz kc kf kz dc df dz;refine aG 5 mixed (by kernel_rfl) eQ ?_;simp only[List.take_succ_cons,List.take_zero,List.drop_succ_cons,List.drop_zero]
      repeat still_step
      refine wpStill_nil ?_;go_wp2_with fail;refine ey.o.mono ?_;rintro e w5 ⟨rfl,R5,iq,eW,-,-⟩;have CQ:=HDZ.o.wd HWZ.o eW rfl;have SM:=HEZ.o.wd HWZ.o eW;have hg5:(S.set {n with ak:=n.ak+1,ctime:=now}).get dir=some d:=by
       rw[fC (a:={n with ak:=n.ak+1,ctime:=now}) (b:=n) (by rw[show({n with ak:=n.ak+1,ctime:=now}:An).no=n.no from rfl,bV Qp.o];exact Qp.o),if_neg]
       ·exact HG.o
       ·intro hdn;have:dir=no:=hdn.trans (show n.no=no from bV Qp.o);have h4:=HG.o;rw[this,Qp.o] at h4;injection h4 with h4;exact Ov.o (by rw[h4];exact Rm.o)
      have GY:=Ux (tZ d.au ea el ec s no w5 SM (HK.o.get HG.o).1.dB Qs.o (AW (HK.o.get HG.o).1.nz OD.o));have He:=Ux (fun l a n c w6 (fp:UA w5 w6) (hl:aA w6 a n c l)=>ku (iq.an fp) dir now d hg5 l a n c hl);have K5:=Ux ((aS.aq (ar (ao (Below.refl _ _) _) rX.o.drew)).trans eW);obtain⟨dc,df,dz⟩:=CQ.facts;clear CQ SM hg5 iq eW pc0 q0 q1 q2 q3 q4 q5 q6 q7 q8 q9 q10 q11;go_wp2_with fail;refine GY.o.mono ?_;rintro e w6 ⟨⟨a',n',c',rfl,he6⟩,fp⟩;have HT:=Ux (He.o _ _ _ _ w6 fp he6);have jJ:=Ux fp;clear he6 fp He GY;go_wp2_with fail;refine HT.o.mono ?_;rintro e w7 ⟨rfl,R7,C3,jf⟩;have HR7:=Ux (ag C3 jf);clear C3 jf HT;go_wp2_with fail;go_ret;rw[HZ.o];exact⟨rfl,R7,HR7.o.1,(K5.o.trans (aS.aq jJ.o)).trans HR7.o.2⟩
    ·have kR:(n.dev != d.dev)=true:=by simpa using h2
     have HZ:=Ux (vl.o.trans (if_pos h2));clear h2 vl;go_wp2_with fail;go_ret;rw[HZ.o];exact⟨rfl,R,HW.o.an (ar (ao (Below.refl _ _) _) gn.o),aS.aq (ar (ao (Below.refl _ _) _) gn.o)⟩
   ·have hfz:(aw d.au s != 0)=true:=by simpa using hf
    have HZ:=Ux (rE.o.trans (if_pos hf));clear hf rE;generalize aw d.au s=f at hfz⊢;go_wp2_with fail;go_ret;rw[HZ.o];exact⟨rfl,R,HW.o.an (ar (ao (Below.refl _ _) _) gn.o),aS.aq (ar (ao (Below.refl _ _) _) gn.o)⟩
end
end
section
open Go.RowKit
def ym(x:Int×Int):List Value:=[UE UL x.1,UE UL x.2]
theorem fY(x:Int×Int):(ym x).length=2:=rfl
def ng(cs:List Value)(x:Int×Int):Prop:=cs=ym x
structure bm(w:World)(pf pw:Nat)(R:Rp)(pv:Value)(Y:Sy):Prop where
 bD:ax w pf #[UH (some ⟨pw,0,none⟩),UE UL Y.now,UE UL Y.count,pv,.bool Y.dead] 42
 wd:bB w pw R Y.fs
 cC:w.ownsRow 0 162 2 pv Y.cC.length (Y.cC.flatMap ym)
def Rp.Y(R:Rp)(pf pw:Nat)(k:Nat):Prop:=k=pf∨R.F pw k
section
variable{w w':World}{pf pw:Nat}{R:Rp}{pv:Value}{Y:Sy}
theorem bm.an(h:bm w pf pw R pv Y)(hb:UA w w'):bm w' pf pw R pv Y:=
 ⟨h.bD.an hb,h.wd.an hb,ew h.cC hb (aa _)⟩
theorem bm.apart(h:bm w pf pw R pv Y){k:Nat}(hk:R.F pw k):k≠pf:=by
 rintro rfl;obtain⟨o,ho,hd⟩:=h.wd.kind hk;have hb:=h.bD;unfold ax at hb;rw[hb] at ho;injection ho with ho;subst ho
 cases hd
theorem bm.nU(h:bm w pf pw R pv Y){k:Nat}(hk:R.Y pf pw k):pv.ownBlock≠some k:=by
 intro he;obtain⟨-,cur,hc⟩:=aH h.cC he;rcases hk with rfl|hk
 ·have hb:=h.bD;unfold ax at hb;rw[hb] at hc
  cases hc
 ·obtain⟨o,ho,hd⟩:=h.wd.kind hk;rw[hc] at ho;injection ho with ho;subst ho
  cases hd
theorem bm.step(h:bm w pf pw R pv Y){R':Rp}{S:Fs}(hw:bB w' pw R' S)(hs:aS (R.F pw) (R'.F pw) w w'):bm w' pf pw R' pv {Y with fs:=S}:=
 ⟨h.bD.mod hs.mod (fun hk=>h.apart hk rfl),hw,bY h.cC hs.mod (fun k hk=>h.nU (.inr hk))⟩
theorem bm.vx(h:bm w pf pw R pv Y)(hm:Mod (fun k=>k=pf) w w'){Z:Sy}(hz:Z.fs=Y.fs)(hp:Z.cC=Y.cC)(hb:ax w' pf #[UH (some ⟨pw,0,none⟩),UE UL Z.now,UE UL Z.count,pv,.bool Z.dead] 42):bm w' pf pw R pv Z:=
 ⟨hb,by rw[hz];exact h.wd.mod hm (fun k o hk ho=>by
   subst hk;have hb:=h.bD;unfold ax at hb;rw[hb] at ho;injection ho with ho;subst ho;exact⟨rfl,fun cur e=>by cases e⟩),
  by rw[hp];exact bY h.cC hm (fun k hk=>h.nU (.inl hk))⟩
theorem gR{R R':Rp}{pf pw:Nat}{w w':World}(h:aS (R.F pw) (R'.F pw) w w'):aS (R.Y pf pw) (R'.Y pf pw) w w':=
 ⟨h.mod.mono (fun k hk=>.inr hk),fun k hk=>hk.elim (fun e=>.inl (.inl e)) (fun hk=>(h.new k hk).imp .inr id)⟩
theorem uN{R:Rp}{pf pw:Nat}{w w':World}(h:Mod (fun k=>k=pf) w w'):aS (R.Y pf pw) (R.Y pf pw) w w':=aS.dH (h.mono (fun k hk=>.inl hk))
theorem gK(h:bm w pf pw R pv Y) :
  Calls Tryz.prog 41 #[UH (some ⟨pf,0,none⟩)] w fun e w'=>e=.returned (.bool false)∧w=w':=by
 obtain⟨pc,-,-⟩:=h.bD.facts;clear h;go_enter Tryz.func41,Tryz.ntmps41;go_wp2_with fail;go_ret;exact⟨rfl,rfl⟩
theorem iC(h:bm w pf pw R pv Y) :
  Calls Tryz.prog 31 #[UH (some ⟨pf,0,none⟩)] w fun e w'=>e=.returned (UE UL (if Y.dead then 20 else 0))∧w=w':=by
 have HN:=Ux (gK h);obtain⟨pc,-,-⟩:=h.bD.facts;clear h
 cases hd:Y.dead with
 |true=>
  rw[hd] at pc;clear hd;go_enter Tryz.func31,Tryz.ntmps31;go_wp2_with (refine HN.o.mono ?_;rintro e w1 ⟨rfl,rfl⟩);go_ret;exact⟨rfl,rfl⟩
 |false=>
  rw[hd] at pc;clear hd;go_enter Tryz.func31,Tryz.ntmps31;go_wp2_with (refine HN.o.mono ?_;rintro e w1 ⟨rfl,rfl⟩);go_ret;exact⟨rfl,rfl⟩
theorem Bg(h:Y.dead=true):Y.change=(Y,20):=by unfold Sy.change;rw[if_pos h]
theorem qY(h:Y.dead=false)(hf:∀x∈Y.cC,x.1≠Y.count+1):Y.change=({Y with count:=Y.count+1},0):=by
 unfold Sy.change;rw[if_neg (by simp[h])];rw[List.find?_eq_none.2 (by simpa using hf)]
theorem GC(h:Y.dead=false){i:Nat}(hi:i<Y.cC.length)(hb:∀j (hj:j<Y.cC.length),j<i→Y.cC[j].1≠Y.count+1)(he:Y.cC[i].1=Y.count+1) :
  Y.change=({Y with count:=Y.count+1,dead:=Y.cC[i].2==20},Y.cC[i].2):=by
 unfold Sy.change;rw[if_neg (by simp[h])];have:Y.cC.find? (fun x=>x.1==Y.count+1)=some Y.cC[i]:=by
  rw[List.find?_eq_some_iff_getElem];exact⟨by simpa using he,i,hi,rfl,fun j hj=>by simpa using hb j (by omega) hj⟩
 rw[this]
theorem fA(h:bm w pf pw R pv Y)(hc:0≤Y.count∧Y.count≤4611686018427387904)(hl:Y.cC.length≤1000000) :
  Calls Tryz.prog 35 #[UH (some ⟨pf,0,none⟩)] w fun e w'=>e=.returned (UE UL Y.change.2)∧bm w' pf pw R pv Y.change.1∧Mod (fun k=>k=pf) w w':=by
 have HR:=Ux (iC h);have HY:=Ux h;obtain⟨KU,jH⟩:=hc;obtain⟨pc,pf',pz⟩:=h.bD.facts
 cases hd:Y.dead with
 |true=>
  have HE:=Ux (Bg hd);rw[hd] at HR;clear h hd;go_enter Tryz.func35,Tryz.ntmps35;go_wp2_with (refine HR.o.mono ?_;rintro e w1 ⟨rfl,rfl⟩);go_ret;rw[HE.o];exact⟨rfl,HY.o,Mod.refl _ _⟩
 |false=>
  rw[hd] at HR pc;have HD:=Ux hd;obtain⟨pa,pcap,rfl,hle,zd,hpf⟩:=bQ h.cC;have hSl:=fe (R:=ng) (by omega) fY (fun _=>rfl) h.cC;have K4:=Ux hSl;have HPf:=Ux hpf;clear h hd hSl hpf;go_enter Tryz.func35,Tryz.ntmps35;have fR:=HY.o.bD;rw[HD.o] at fR;have dX:=Ux (fR.set 2 (UE UL (Y.count+1)));clear fR;go_wp2_with (refine HR.o.mono ?_;rintro e w1 ⟨rfl,rfl⟩)
  go_loopw [23] (fun t23 wr=>∃k:Nat,k≤Y.cC.length∧t23=UE UL k∧ax wr pf #[UH (some ⟨pw,0,none⟩),UE UL Y.now,UE UL (Y.count+1),UG pa Y.cC.length pcap,.bool false] 42∧Mod (fun x=>x=pf) w wr∧(∀j (hj:j<Y.cC.length),j<k→Y.cC[j].1≠Y.count+1)) (fun t23 _=>Y.cC.length-(intOf t23).toNat)
  case atStart=>exact⟨0,Nat.zero_le _,rfl,dX.o,(Mod.refl (fun x=>x=pf) w).setCell (a:=⟨pf,2,none⟩) (.inl rfl) _,fun j _ h=>absurd h (Nat.not_lt_zero _)⟩
  case round=>
   obtain⟨k,hk,rfl,hb,hm,hbef⟩:=hrel;have vu:=Ux hb;have HMw:=Ux hm;have NJ:=Ux hbef;obtain⟨bc,bf,bz⟩:=hb.facts;have hpl:=bY HY.o.cC hm (fun k hk=>HY.o.nU (.inl hk));clear hb hbef;by_cases hlt:k<Y.cC.length
   ·obtain⟨-,-,-,h0|⟨b,off,he,hbl,hel⟩⟩:=fe (R:=ng) (by omega) fY (fun _=>rfl) hpl
    ·omega
    ·subst he;obtain⟨cs,e1,e2,e3⟩:=hel k hlt;unfold ng at e2;subst e2;have c0:=e3 0 (by rw[fY];omega);have c1:=e3 1 (by rw[fY];omega);obtain⟨fa,fw,hfe⟩:∃fa fw,Y.cC[k]=(fa,fw):=⟨_,_,rfl⟩;have HFe:=Ux hfe;have c0':wr.cell? ⟨b,off+k*2,none⟩=some (UE UL fa):=by rw[hfe] at c0;exact c0
     have c1':wr.cell? ⟨b,off+k*2+1,none⟩=some (UE UL fw):=by rw[hfe] at c1;exact c1
     have mixed:Tryz.prog.follows .mixedOrders=true:=by kernel_rfl
     clear hel e1 e3 c0 c1 hpl hm hfe;have hBX:=vu.o.bI (.cells #[UE UL fa,UE UL fw] 162);have Ge:=HMw.o.alloc (.cells #[UE UL fa,UE UL fw] 162);have rn:=ax.new wr #[UE UL fa,UE UL fw] 162;go_upto_region 8 with fail;generalize wr.alloc _=X at hBX Ge rn⊢;have bC:=Ux hBX;have La:=Ux Ge;obtain⟨xc,xf,xz⟩:=rn.facts;clear bc bf bz c0' c1';obtain⟨bc,bf,bz⟩:=hBX.facts;clear hBX Ge rn;refine aG 6 mixed (by kernel_rfl) (show cn _ from by repeat (first|exact cS|refine cR ?_|refine cx ?_|refine cG ?_)) ?_;simp only[List.take_succ_cons,List.take_zero,List.drop_succ_cons,List.drop_zero]
     repeat still_step
     refine wpStill_nil ?_;by_cases he:fa=Y.count+1
     ·have HE:=Ux (GC HD.o hlt NJ.o (by rw[HFe.o];exact he));rw[HFe.o] at HE;have heb:(fa==Y.count+1)=true:=by simpa using he
      clear he;by_cases K0:fw=20
      ·have PY:(fw==20)=true:=by simpa using K0
       have HV:=Ux (show(fw==20)=true from PY);clear K0;go_wp2_with fail;go_ret;rw[HE.o];exact⟨rfl,HY.o.vx (La.o.drew.setCell (a:=⟨pf,4,none⟩) (.inl rfl) _) rfl rfl (by dsimp only;rw[HV.o];exact bC.o.drew.set 4 _),La.o.drew.setCell (a:=⟨pf,4,none⟩) (.inl rfl) _⟩
      ·have PY:(fw==20)=false:=by simpa using K0
       have HV:=Ux (show(fw==20)=false from PY);clear K0;go_wp2_with fail;go_ret;rw[HE.o];exact⟨rfl,HY.o.vx (La.o.drew.setCell (a:=⟨pf,4,none⟩) (.inl rfl) _) rfl rfl (by dsimp only;rw[HV.o];exact bC.o.drew.set 4 _),La.o.drew.setCell (a:=⟨pf,4,none⟩) (.inl rfl) _⟩
     ·have heb:(fa==Y.count+1)=false:=by simpa using he
      have HN:=Ux he;clear he;go_wp2_with fail;go_roundw
      case rel=>exact⟨k+1,by omega,by go_num,bC.o.drew,La.o.drew,fun j hj Sx=>by
       by_cases hjk:j=k
       ·subst hjk;rw[HFe.o];exact HN.o
       ·exact NJ.o j hj (by omega)⟩
      case measure=>simp[intOf];omega
   ·obtain rfl:k=Y.cC.length:=by omega
    have HE:=Ux (qY HD.o (fun x hx=>by obtain⟨j,hj,rfl⟩:=List.mem_iff_getElem.1 hx;exact NJ.o j hj hj));clear hm hpl;go_wp2_with fail;go_ret;rw[HE.o];exact⟨rfl,HY.o.vx HMw.o rfl rfl (by rw[HD.o];exact vu.o),HMw.o⟩
end
end
section
open Go.RowKit
theorem l7{tmps:Array Value}{W:World}{B:Nat}{a:An}{ea:Option Addr}{el ec:Nat}{e:Int}(hb:ax W B #[UE UL a.no,UE UL a.dev,UE UL a.kind,UE UL a.mode,UE UL a.uid,UE UL a.gid,UE UL a.mtime,UE UL a.ctime,UE UL a.ak,UE UL a.up,UF a.data,UG ea el ec] 149)
  (h8:tmps.getD 6 undef=UH (some ⟨B,0,none⟩)) (h9:tmps.getD 7 undef=UE UL e):(results Tryz.f127 tmps).run Tryz.prog W=.ok (UK #[a.v ea el ec,UE UL e]) W:=by
 obtain⟨q0,q1,q2,q3,q4,q5,q6,q7,q8,q9,q10,q11⟩:=hb.fO;rw[Array.getD_eq_getD_getElem?] at h8 h9;simp[results,Tryz.results127,go_sem,An.v,h8,h9,q0,q1,q2,q3,q4,q5,q6,q7,q8,q9,q10,q11]
def Fs.iU(S:Fs)(c:Cr)(no:Int):Int:=match S.get no with
 |none=>5
 |some n=>if gL c n=false then 4 else 0
section
variable{w w':World}{pw:Nat}{R:Rp}{S:Fs}
theorem I5(h:bB w pw R S){N:Nat}(hk:ay S N)(c:Cr)(no:Int)(hg:S.get no=none) :
  Calls Tryz.prog 127 #[UH (some ⟨pw,0,none⟩),UJ #[UE UL c.u,UE UL c.g],UE UL no] w fun e w'=>e=.returned (UK #[dD.v none 0 0,UE UL 5])∧UA w w':=by
 have ka:=Ux (fun w1 (av:UA w w1)=>iA (h.an av) hk.d1);have hnz:=hk.d1;generalize S.ds.length=n at ka hnz;have hz:((n:Int)==0)=false:=by simp;omega
 have HG:=Ux (fun w1 (av:UA w w1)=>gD (h.an av) hg);obtain⟨pc,-,pz⟩:=h.bD.facts;unfold An.v dD at HG;clear h hk hg;go_enter Tryz.func127,Tryz.ntmps127;go_wp2_with fail;refine(ka.o _ (ao (ao (Below.refl _ _) _) _)).mono ?_;rintro e w1 ⟨rfl,rfl⟩;go_wp2_with fail;refine(HG.o _ (ao (ao (Below.refl _ _) _) _)).mono ?_;rintro e w1 ⟨rfl,av⟩;have aY:=ar (ao (ao (UB w) _) _) av;have hR:ax w1 (w.heap.size+1) #[UE UL 0,UE UL 0,UE UL 0,UE UL 0,UE UL 0,UE UL 0,UE UL 0,UE UL 0,UE UL 0,UE UL 0,UF ⟨#[]⟩,UG none 0 0] 149:=by
  have:=((ax.new (w.alloc (.cells #[UE UL c.u,UE UL c.g] 64)) #[UE UL 0,UE UL 0,UE UL 0,UE UL 0,UE UL 0,UE UL 0,UE UL 0,UE UL 0,UE UL 0,UE UL 0,UF ⟨#[]⟩,UG none 0 0] 149).an av)
  rwa [World.size_alloc] at this
 have fh:=hR.bI (.cells #[UE UL 0,UE UL 0,UE UL 0,UE UL 0,UE UL 0,UE UL 0,UE UL 0,UE UL 0,UE UL 0,UE UL 0,UF ByteArray.empty,UG none 0 0] 149);have aJ:=ao aY (.cells #[UE UL 0,UE UL 0,UE UL 0,UE UL 0,UE UL 0,UE UL 0,UE UL 0,UE UL 0,UE UL 0,UE UL 0,UF ByteArray.empty,UG none 0 0] 149);clear hR av aY pc;go_upto_region 4 with fail;generalize w1.alloc _=X at fh aJ⊢;have gT:=Ux fh;have bC:=Ux aJ;obtain⟨rc,rf,rz⟩:=fh.facts;clear fh aJ;go_wp2_with fail;exact bodyPost_ret (l7 (a:=dD) gT.o.dY rfl rfl) rfl ⟨rfl,bg bC.o (Nat.le_succ _)⟩
theorem I4(h:bB w pw R S){N:Nat}(hk:ay S N)(c:Cr)(no:Int)(d:An)(hg:S.get no=some d) :
  Calls Tryz.prog 127 #[UH (some ⟨pw,0,none⟩),UJ #[UE UL c.u,UE UL c.g],UE UL no] w fun e w'=>((gL c d=false∧e=.returned (UK #[dD.v none 0 0,UE UL 4]))∨(gL c d=true∧∃ea el ec,e=.returned (UK #[d.v ea el ec,UE UL 0])∧aA w ea el ec d.au))∧UA w w':=by
 have ka:=Ux (fun w1 (av:UA w w1)=>iA (h.an av) hk.d1);have hnz:=hk.d1;generalize S.ds.length=n at ka hnz;have hz:((n:Int)==0)=false:=by simp;omega
 obtain⟨ea,el,ec,he,hG⟩:=fF h hg;have HE:=Ux he;have HG:=Ux hG;unfold An.v at HG;have lX:=Ux (fun w=>pU c d ea el ec w);unfold Cr.v An.v at lX;obtain⟨pc,-,pz⟩:=h.bD.facts;generalize gL c d=my at lX⊢;clear h hk hg he hG;go_enter Tryz.func127,Tryz.ntmps127;go_wp2_with fail;refine(ka.o _ (ao (ao (Below.refl _ _) _) _)).mono ?_;rintro e w1 ⟨rfl,rfl⟩;go_wp2_with fail;refine(HG.o _ (ao (ao (Below.refl _ _) _) _)).mono ?_;rintro e w1 ⟨rfl,av⟩;have aY:=ar (ao (ao (UB w) _) _) av;have hR:ax w1 (w.heap.size+1) #[UE UL 0,UE UL 0,UE UL 0,UE UL 0,UE UL 0,UE UL 0,UE UL 0,UE UL 0,UE UL 0,UE UL 0,UF ⟨#[]⟩,UG none 0 0] 149:=by
  have:=((ax.new (w.alloc (.cells #[UE UL c.u,UE UL c.g] 64)) #[UE UL 0,UE UL 0,UE UL 0,UE UL 0,UE UL 0,UE UL 0,UE UL 0,UE UL 0,UE UL 0,UE UL 0,UF ⟨#[]⟩,UG none 0 0] 149).an av)
  rwa [World.size_alloc] at this
 have yZ:ax w1 w.heap.size #[UE UL c.u,UE UL c.g] 64:=((ax.new w #[UE UL c.u,UE UL c.g] 64).bI (.cells #[UE UL 0,UE UL 0,UE UL 0,UE UL 0,UE UL 0,UE UL 0,UE UL 0,UE UL 0,UE UL 0,UE UL 0,UF ⟨#[]⟩,UG none 0 0] 149)).an av;have fh:=hR.bI (.cells #[UE UL d.no,UE UL d.dev,UE UL d.kind,UE UL d.mode,UE UL d.uid,UE UL d.gid,UE UL d.mtime,UE UL d.ctime,UE UL d.ak,UE UL d.up,UF d.data,UG ea el ec] 149);have ir:=yZ.bI (.cells #[UE UL d.no,UE UL d.dev,UE UL d.kind,UE UL d.mode,UE UL d.uid,UE UL d.gid,UE UL d.mtime,UE UL d.ctime,UE UL d.ak,UE UL d.up,UF d.data,UG ea el ec] 149);have jg:=ax.new w1 #[UE UL d.no,UE UL d.dev,UE UL d.kind,UE UL d.mode,UE UL d.uid,UE UL d.gid,UE UL d.mtime,UE UL d.ctime,UE UL d.ak,UE UL d.up,UF d.data,UG ea el ec] 149;have aJ:=ao aY (.cells #[UE UL d.no,UE UL d.dev,UE UL d.kind,UE UL d.mode,UE UL d.uid,UE UL d.gid,UE UL d.mtime,UE UL d.ctime,UE UL d.ak,UE UL d.up,UF d.data,UG ea el ec] 149);clear hR yZ av aY pc;go_upto_region 4 with fail;generalize w1.alloc _=X at fh ir jg aJ⊢;have gT:=Ux fh;have bC:=Ux aJ;have BJ:=Ux jg;have Qz:=Ux ir;obtain⟨rc,rf,rz⟩:=fh.facts;obtain⟨dc,df,dz⟩:=jg.facts;obtain⟨cc,-,-⟩:=ir.facts;clear fh aJ jg ir;go_wp2_with fail;refine(lX.o _).mono ?_;rintro e w5 ⟨rfl,cK⟩;have og:=gT.o.an cK;have AS:=BJ.o.an cK;have tQ:=bC.o.trans (cK.mono bC.o.size);have yJ:=Ux og;have yS:=Ux tQ;clear rc rf rz dc df dz cc;obtain⟨rc,rf,rz⟩:=og.facts;obtain⟨dc,-,-⟩:=AS.facts;clear og tQ cK AS
 cases my
 ·go_wp2_with fail;exact bodyPost_ret (l7 (a:=dD) yJ.o.dY rfl rfl) rfl ⟨rfl,bg yS.o (Nat.le_succ _)⟩
 ·go_wp2_with fail;exact bodyPost_ret (l7 (a:=d) (ea:=ea) (el:=el) (ec:=ec) yJ.o.dY rfl rfl) rfl ⟨⟨ea,el,ec,rfl,HE.o⟩,bg yS.o (Nat.le_succ _)⟩
theorem xI(h:bB w pw R S){N:Nat}(hk:ay S N)(c:Cr)(no:Int) :
  Calls Tryz.prog 127 #[UH (some ⟨pw,0,none⟩),UJ #[UE UL c.u,UE UL c.g],UE UL no] w fun e w'=>((S.iU c no≠0∧e=.returned (UK #[dD.v none 0 0,UE UL (S.iU c no)]))∨(S.iU c no=0∧∃d ea el ec,S.get no=some d∧e=.returned (UK #[d.v ea el ec,UE UL 0])∧aA w ea el ec d.au))∧UA w w':=by
 cases hg:S.get no with
 |none=>
  refine(I5 h hk c no hg).mono ?_;rintro e w1 ⟨rfl,hb⟩;have:S.iU c no=5:=by unfold Fs.iU;rw[hg]
  rw[this];exact⟨.inl ⟨by decide,rfl⟩,hb⟩
 |some d=>
  refine(I4 h hk c no d hg).mono ?_;rintro e w1 ⟨⟨h1,rfl⟩|⟨h1,ea,el,ec,h2,h3⟩,hb⟩
  ·have:S.iU c no=4:=by unfold Fs.iU;rw[hg];simp only;rw[if_pos h1]
   rw[this];exact⟨.inl ⟨by decide,rfl⟩,hb⟩
  ·have:S.iU c no=0:=by unfold Fs.iU;rw[hg];simp only;rw[if_neg (by simp[h1])]
   rw[this];exact⟨.inr ⟨rfl,d,ea,el,ec,rfl,h2,h3⟩,hb⟩
end
end
section
open Go.RowKit
section
variable{w w':World}{pw:Nat}{R:Rp}{S:Fs}
theorem sV{S:Fs}{c:Cr}{no:Int}{d:An}(h:S.iU c no=0)(hg:S.get no=some d):gL c d=true:=by
 unfold Fs.iU at h;rw[hg] at h;simp only at h
 cases ho:gL c d with
 |true=>rfl
 |false=>rw[ho] at h;simp at h
theorem Kd{S:Fs}{c:Cr}{now no m:Int}(h:S.iU c no≠0):S.cq c now no m=(S,S.iU c no):=by
 unfold Fs.cq Fs.iU at *
 cases hg:S.get no with
 |none=>rfl
 |some d=>
  simp only[hg] at h⊢
  cases ho:gL c d with
  |true=>rw[ho] at h;simp at h
  |false=>rfl
theorem Kc{S:Fs}{c:Cr}{now no u g:Int}(h:S.iU c no≠0):S.cy c now no u g=(S,S.iU c no):=by
 unfold Fs.cy Fs.iU at *
 cases hg:S.get no with
 |none=>rfl
 |some d=>
  simp only[hg] at h⊢
  cases ho:gL c d with
  |true=>rw[ho] at h;simp at h
  |false=>rfl
theorem Ig{S:Fs}{c:Cr}{now no t:Int}(h:S.iU c no≠0):S.ct c now no t=(S,S.iU c no):=by
 unfold Fs.ct Fs.iU at *
 cases hg:S.get no with
 |none=>rfl
 |some d=>
  simp only[hg] at h⊢
  cases ho:gL c d with
  |true=>rw[ho] at h;simp at h
  |false=>rfl
theorem Jf(h:bB w pw R S){N:Nat}(hk:ay S N)(c:Cr)(now no mode:Int) :
  Calls Tryz.prog 89 #[UH (some ⟨pw,0,none⟩),UJ #[UE UL c.u,UE UL c.g],UE UL now,UE UL no,UE UL mode] w fun e w'=>
   e=.returned (UE UL (S.cq c now no mode).2)∧∃R',bB w' pw R' (S.cq c now no mode).1∧aS (R.F pw) (R'.F pw) w w':=by
 have HO:=Ux (fun w1 (av:UA w w1)=>xI (h.an av) hk c no);have HW:=Ux h;have mixed:Tryz.prog.follows .mixedOrders=true:=by kernel_rfl
 obtain⟨pc,-,pz⟩:=h.bD.facts;clear h hk;go_enter Tryz.func89,Tryz.ntmps89;go_wp2_with fail;refine(HO.o _ (ao (Below.refl _ _) _)).mono ?_;clear HO;rintro e w1 ⟨⟨h0,rfl⟩|⟨h0,d,ea,el,ec,hg,rfl,he⟩,av⟩
 ·have aJ:=ar (ao (UB w) _) av;have HB:=Ux aJ;have HC:=Ux (Kd (now:=now) (m:=mode) h0);have hz:(S.iU c no==0)=false:=by simpa using h0
  generalize S.iU c no=pe at HC hz⊢;unfold An.v dD;clear h0 av aJ pc;go_wp2_with fail;go_ret;rw[HC.o];exact⟨rfl,R,HW.o.an (ao HB.o _),aS.aq (ao HB.o _)⟩
 ·have aJ:=ao av (.cells #[UE UL d.no,UE UL d.dev,UE UL d.kind,UE UL d.mode,UE UL d.uid,UE UL d.gid,UE UL d.mtime,UE UL d.ctime,UE UL d.ak,UE UL d.up,UF d.data,UG ea el ec] 149);have ir:=((ax.new w #[UE UL c.u,UE UL c.g] 64).an av).bI (.cells #[UE UL d.no,UE UL d.dev,UE UL d.kind,UE UL d.mode,UE UL d.uid,UE UL d.gid,UE UL d.mtime,UE UL d.ctime,UE UL d.ak,UE UL d.up,UF d.data,UG ea el ec] 149);have jg:=ax.new w1 #[UE UL d.no,UE UL d.dev,UE UL d.kind,UE UL d.mode,UE UL d.uid,UE UL d.gid,UE UL d.mtime,UE UL d.ctime,UE UL d.ak,UE UL d.up,UF d.data,UG ea el ec] 149;have hsz:=av.size;have Hq:=Ux (sV h0 hg);have ey:=Ux (fun w1 (av:Below (w.alloc (.cells #[UE UL c.u,UE UL c.g] 64)).heap.size (w.alloc (.cells #[UE UL c.u,UE UL c.g] 64)) w1)=>(HW.o.an (ar (ao (Below.refl _ _) _) av)).xr {d with mode:=mode,ctime:=now} (he.an av) (b:=d) (by rw[show({d with mode:=mode,ctime:=now}:An).no=d.no from rfl,bV hg];exact hg));have HG:=Ux hg;unfold An.v at ey;unfold An.v;clear h0 av he hg;go_upto_region 2 with fail;generalize w1.alloc _=X at aJ ir jg⊢;obtain⟨dc,df,dz⟩:=jg.facts;obtain⟨cc,-,-⟩:=ir.facts;have Qz:=Ux ir;have BJ:=Ux jg;have bC:=Ux aJ;have ni:=Ux pc;have T9:=Ux pz;clear ir jg aJ pc pz;by_cases h1:mode<0
  ·skip
   have HE:=Ux (show S.cq c now no mode=(S,1) by unfold Fs.cq;rw[HG.o];simp only;rw[if_neg (by rw[Hq.o];decide),if_pos (.inl h1)]);go_wp2_with fail;go_ret;rw[HE.o];exact⟨rfl,R,HW.o.an (ar (ao (Below.refl _ _) _) bC.o),aS.aq (ar (ao (Below.refl _ _) _) bC.o)⟩
  by_cases h2:1023<mode
  ·skip
   have HE:=Ux (show S.cq c now no mode=(S,1) by unfold Fs.cq;rw[HG.o];simp only;rw[if_neg (by rw[Hq.o];decide),if_pos (.inr (.inl h2))]);go_wp2_with fail;go_ret;rw[HE.o];exact⟨rfl,R,HW.o.an (ar (ao (Below.refl _ _) _) bC.o),aS.aq (ar (ao (Below.refl _ _) _) bC.o)⟩
  by_cases h3:d.kind=3
  ·have tR:(d.kind==3)=true:=by simpa using h3
   have HE:=Ux (show S.cq c now no mode=(S,1) by unfold Fs.cq;rw[HG.o];simp only;rw[if_neg (by rw[Hq.o];decide),if_pos (.inr (.inr h3))]);clear h3;go_wp2_with fail;go_ret;rw[HE.o];exact⟨rfl,R,HW.o.an (ar (ao (Below.refl _ _) _) bC.o),aS.aq (ar (ao (Below.refl _ _) _) bC.o)⟩
  have tR:(d.kind==3)=false:=by simpa using h3
  have HE:=Ux (show S.cq c now no mode=(S.set {d with mode:=mode,ctime:=now},0) by unfold Fs.cq;rw[HG.o];simp only;rw[if_neg (by rw[Hq.o];decide),if_neg (by omega)]);go_wp2_with fail;have rs:=((BJ.o.set 3 (UE UL mode)).set 7 (UE UL now));have eT:Below (w.alloc (.cells #[UE UL c.u,UE UL c.g] 64)).heap.size (w.alloc (.cells #[UE UL c.u,UE UL c.g] 64)) ((X.setCell ⟨w1.heap.size,3,none⟩ (UE UL mode)).setCell ⟨w1.heap.size,7,none⟩ (UE UL now)):=((bC.o.setCell hsz _).setCell hsz _);generalize World.setCell _ _ _=Y at rs eT⊢;obtain⟨q0,q1,q2,q3,q4,q5,q6,q7,q8,q9,q10,q11⟩:=ax.fO (x0:=UE UL d.no) rs;have pc0:Y.cell? ⟨pw,0,none⟩=some (UH (some ⟨R.pt,0,none⟩)):=((ar (ao (UB w) (.cells #[UE UL c.u,UE UL c.g] 64)) eT).cell (p:=⟨pw,0,none⟩) T9.o).trans (ni.o 0);have HS:=Ux (ey.o _ eT.drew);have HY:=Ux eT;clear rs eT dc df dz
  try clear cc
  refine aG 5 mixed (by kernel_rfl) eQ ?_;simp only[List.take_succ_cons,List.take_zero,List.drop_succ_cons,List.drop_zero]
  repeat still_step
  refine wpStill_nil ?_;go_wp2_with fail;refine HS.o.mono ?_;rintro e w5 ⟨rfl,R',ez,dw,-,-⟩;have HR:=Ux (ag ez dw);clear ez dw;go_wp2_with fail;go_ret;rw[HE.o];exact⟨rfl,R',HR.o.1,(aS.aq (ar (ao (Below.refl _ _) _) HY.o.drew)).trans HR.o.2⟩
theorem FG(h:bB w pw R S){N:Nat}(hk:ay S N)(c:Cr)(now no u g:Int) :
  Calls Tryz.prog 88 #[UH (some ⟨pw,0,none⟩),UJ #[UE UL c.u,UE UL c.g],UE UL now,UE UL no,UE UL u,UE UL g] w fun e w'=>
   e=.returned (UE UL (S.cy c now no u g).2)∧∃R',bB w' pw R' (S.cy c now no u g).1∧aS (R.F pw) (R'.F pw) w w':=by
 have HO:=Ux (fun w1 (av:UA w w1)=>xI (h.an av) hk c no);have HW:=Ux h;have mixed:Tryz.prog.follows .mixedOrders=true:=by kernel_rfl
 obtain⟨pc,-,pz⟩:=h.bD.facts;clear h hk;go_enter Tryz.func88,Tryz.ntmps88;go_wp2_with fail;refine(HO.o _ (ao (Below.refl _ _) _)).mono ?_;clear HO;rintro e w1 ⟨⟨h0,rfl⟩|⟨h0,d,ea,el,ec,hg,rfl,he⟩,av⟩
 ·have aJ:=ar (ao (UB w) _) av;have HB:=Ux aJ;have HC:=Ux (Kc (now:=now) (u:=u) (g:=g) h0);have hz:(S.iU c no==0)=false:=by simpa using h0
  generalize S.iU c no=pe at HC hz⊢;unfold An.v dD;clear h0 av aJ pc;go_wp2_with fail;go_ret;rw[HC.o];exact⟨rfl,R,HW.o.an (ao HB.o _),aS.aq (ao HB.o _)⟩
 ·have aJ:=ao av (.cells #[UE UL d.no,UE UL d.dev,UE UL d.kind,UE UL d.mode,UE UL d.uid,UE UL d.gid,UE UL d.mtime,UE UL d.ctime,UE UL d.ak,UE UL d.up,UF d.data,UG ea el ec] 149);have ir:=((ax.new w #[UE UL c.u,UE UL c.g] 64).an av).bI (.cells #[UE UL d.no,UE UL d.dev,UE UL d.kind,UE UL d.mode,UE UL d.uid,UE UL d.gid,UE UL d.mtime,UE UL d.ctime,UE UL d.ak,UE UL d.up,UF d.data,UG ea el ec] 149);have jg:=ax.new w1 #[UE UL d.no,UE UL d.dev,UE UL d.kind,UE UL d.mode,UE UL d.uid,UE UL d.gid,UE UL d.mtime,UE UL d.ctime,UE UL d.ak,UE UL d.up,UF d.data,UG ea el ec] 149;have hsz:=av.size;have Hq:=Ux (sV h0 hg);have ey:=Ux (fun w1 (av:Below (w.alloc (.cells #[UE UL c.u,UE UL c.g] 64)).heap.size (w.alloc (.cells #[UE UL c.u,UE UL c.g] 64)) w1)=>(HW.o.an (ar (ao (Below.refl _ _) _) av)).xr {d with uid:=u,gid:=g,ctime:=now} (he.an av) (b:=d) (by rw[show({d with uid:=u,gid:=g,ctime:=now}:An).no=d.no from rfl,bV hg];exact hg));have HG:=Ux hg;unfold An.v at ey;unfold An.v;clear h0 av he hg;go_upto_region 2 with fail;generalize w1.alloc _=X at aJ ir jg⊢;obtain⟨dc,df,dz⟩:=jg.facts;obtain⟨cc,-,-⟩:=ir.facts;have Qz:=Ux ir;have BJ:=Ux jg;have bC:=Ux aJ;have ni:=Ux pc;have T9:=Ux pz;clear ir jg aJ pc pz;by_cases h1:c.u≠0
  ·have o8:(c.u != 0)=true:=by simpa using h1
   have HE:=Ux (show S.cy c now no u g=(S,4) by unfold Fs.cy;rw[HG.o];simp only;rw[if_neg (by rw[Hq.o];decide),if_pos h1]);clear h1;go_wp2_with fail;go_ret;rw[HE.o];exact⟨rfl,R,HW.o.an (ar (ao (Below.refl _ _) _) bC.o),aS.aq (ar (ao (Below.refl _ _) _) bC.o)⟩
  have h1:c.u=0:=Decidable.not_not.1 h1;have o8:(c.u != 0)=false:=by simpa using h1
  have HF:=Ux (fun w=>FB u g w);by_cases h2:KP u g=false
  ·have kR:=h2;have HE:=Ux (show S.cy c now no u g=(S,1) by unfold Fs.cy;rw[HG.o];simp only;rw[if_neg (by rw[Hq.o];decide),if_neg (by simp[h1]),if_pos kR]);rw[kR] at HF;clear h1 h2 kR;go_wp2_with fail;refine(HF.o _).mono ?_;rintro e w5 ⟨rfl,cK⟩;have oC:=Ux (bC.o.trans (cK.mono bC.o.size));clear cK;go_wp2_with fail;go_ret;rw[HE.o];exact⟨rfl,R,HW.o.an (ar (ao (Below.refl _ _) _) oC.o),aS.aq (ar (ao (Below.refl _ _) _) oC.o)⟩
  have HE:=Ux (show S.cy c now no u g=(S.set {d with uid:=u,gid:=g,ctime:=now},0) by unfold Fs.cy;rw[HG.o];simp only;rw[if_neg (by rw[Hq.o];decide),if_neg (by simp[h1]),if_neg h2]);have h2:KP u g=true:=by simpa using h2
  rw[h2] at HF;clear h1 h2;go_wp2_with fail;refine(HF.o _).mono ?_;rintro e w5 ⟨rfl,cK⟩;have oC:=Ux (bC.o.trans (cK.mono bC.o.size));have HD5:=Ux (BJ.o.an cK);have hD5:=HD5.o;clear dc df dz cc cK;obtain⟨dc,df,dz⟩:=hD5.facts;clear hD5;go_wp2_with fail;have rs:=(((HD5.o.set 4 (UE UL u)).set 5 (UE UL g)).set 7 (UE UL now));have eT:Below (w.alloc (.cells #[UE UL c.u,UE UL c.g] 64)).heap.size (w.alloc (.cells #[UE UL c.u,UE UL c.g] 64)) (((w5.setCell ⟨w1.heap.size,4,none⟩ (UE UL u)).setCell ⟨w1.heap.size,5,none⟩ (UE UL g)).setCell ⟨w1.heap.size,7,none⟩ (UE UL now)):=(((oC.o.setCell hsz _).setCell hsz _).setCell hsz _);generalize World.setCell _ _ _=Y at rs eT⊢;obtain⟨q0,q1,q2,q3,q4,q5,q6,q7,q8,q9,q10,q11⟩:=ax.fO (x0:=UE UL d.no) rs;have pc0:Y.cell? ⟨pw,0,none⟩=some (UH (some ⟨R.pt,0,none⟩)):=((ar (ao (UB w) (.cells #[UE UL c.u,UE UL c.g] 64)) eT).cell (p:=⟨pw,0,none⟩) T9.o).trans (ni.o 0);have HS:=Ux (ey.o _ eT.drew);have HY:=Ux eT;clear rs eT dc df dz
  try clear cc
  refine aG 5 mixed (by kernel_rfl) eQ ?_;simp only[List.take_succ_cons,List.take_zero,List.drop_succ_cons,List.drop_zero]
  repeat still_step
  refine wpStill_nil ?_;go_wp2_with fail;refine HS.o.mono ?_;rintro e w5 ⟨rfl,R',ez,dw,-,-⟩;have HR:=Ux (ag ez dw);clear ez dw;go_wp2_with fail;go_ret;rw[HE.o];exact⟨rfl,R',HR.o.1,(aS.aq (ar (ao (Below.refl _ _) _) HY.o.drew)).trans HR.o.2⟩
theorem Ir(h:bB w pw R S){N:Nat}(hk:ay S N)(c:Cr)(now no t:Int) :
  Calls Tryz.prog 90 #[UH (some ⟨pw,0,none⟩),UJ #[UE UL c.u,UE UL c.g],UE UL now,UE UL no,UE UL t] w fun e w'=>
   e=.returned (UE UL (S.ct c now no t).2)∧∃R',bB w' pw R' (S.ct c now no t).1∧aS (R.F pw) (R'.F pw) w w':=by
 have HO:=Ux (fun w1 (av:UA w w1)=>xI (h.an av) hk c no);have HW:=Ux h;have mixed:Tryz.prog.follows .mixedOrders=true:=by kernel_rfl
 obtain⟨pc,-,pz⟩:=h.bD.facts;clear h hk;go_enter Tryz.func90,Tryz.ntmps90;go_wp2_with fail;refine(HO.o _ (ao (Below.refl _ _) _)).mono ?_;clear HO;rintro e w1 ⟨⟨h0,rfl⟩|⟨h0,d,ea,el,ec,hg,rfl,he⟩,av⟩
 ·have aJ:=ar (ao (UB w) _) av;have HB:=Ux aJ;have HC:=Ux (Ig (now:=now) (t:=t) h0);have hz:(S.iU c no==0)=false:=by simpa using h0
  generalize S.iU c no=pe at HC hz⊢;unfold An.v dD;clear h0 av aJ pc;go_wp2_with fail;go_ret;rw[HC.o];exact⟨rfl,R,HW.o.an (ao HB.o _),aS.aq (ao HB.o _)⟩
 ·have aJ:=ao av (.cells #[UE UL d.no,UE UL d.dev,UE UL d.kind,UE UL d.mode,UE UL d.uid,UE UL d.gid,UE UL d.mtime,UE UL d.ctime,UE UL d.ak,UE UL d.up,UF d.data,UG ea el ec] 149);have ir:=((ax.new w #[UE UL c.u,UE UL c.g] 64).an av).bI (.cells #[UE UL d.no,UE UL d.dev,UE UL d.kind,UE UL d.mode,UE UL d.uid,UE UL d.gid,UE UL d.mtime,UE UL d.ctime,UE UL d.ak,UE UL d.up,UF d.data,UG ea el ec] 149);have jg:=ax.new w1 #[UE UL d.no,UE UL d.dev,UE UL d.kind,UE UL d.mode,UE UL d.uid,UE UL d.gid,UE UL d.mtime,UE UL d.ctime,UE UL d.ak,UE UL d.up,UF d.data,UG ea el ec] 149;have hsz:=av.size;have Hq:=Ux (sV h0 hg);have ey:=Ux (fun w1 (av:Below (w.alloc (.cells #[UE UL c.u,UE UL c.g] 64)).heap.size (w.alloc (.cells #[UE UL c.u,UE UL c.g] 64)) w1)=>(HW.o.an (ar (ao (Below.refl _ _) _) av)).xr {d with mtime:=t,ctime:=now} (he.an av) (b:=d) (by rw[show({d with mtime:=t,ctime:=now}:An).no=d.no from rfl,bV hg];exact hg));have HG:=Ux hg;unfold An.v at ey;unfold An.v;clear h0 av he hg;go_upto_region 2 with fail;generalize w1.alloc _=X at aJ ir jg⊢;obtain⟨dc,df,dz⟩:=jg.facts;obtain⟨cc,-,-⟩:=ir.facts;have Qz:=Ux ir;have BJ:=Ux jg;have bC:=Ux aJ;have ni:=Ux pc;have T9:=Ux pz;clear ir jg aJ pc pz;by_cases h1:t<0
  ·skip
   have HE:=Ux (show S.ct c now no t=(S,1) by unfold Fs.ct;rw[HG.o];simp only;rw[if_neg (by rw[Hq.o];decide),if_pos (.inl h1)]);go_wp2_with fail;go_ret;rw[HE.o];exact⟨rfl,R,HW.o.an (ar (ao (Below.refl _ _) _) bC.o),aS.aq (ar (ao (Below.refl _ _) _) bC.o)⟩
  by_cases h2:253402300799<t
  ·skip
   have HE:=Ux (show S.ct c now no t=(S,1) by unfold Fs.ct;rw[HG.o];simp only;rw[if_neg (by rw[Hq.o];decide),if_pos (.inr h2)]);go_wp2_with fail;go_ret;rw[HE.o];exact⟨rfl,R,HW.o.an (ar (ao (Below.refl _ _) _) bC.o),aS.aq (ar (ao (Below.refl _ _) _) bC.o)⟩
  have HE:=Ux (show S.ct c now no t=(S.set {d with mtime:=t,ctime:=now},0) by unfold Fs.ct;rw[HG.o];simp only;rw[if_neg (by rw[Hq.o];decide),if_neg (by omega)]);go_wp2_with fail;have rs:=((BJ.o.set 6 (UE UL t)).set 7 (UE UL now));have eT:Below (w.alloc (.cells #[UE UL c.u,UE UL c.g] 64)).heap.size (w.alloc (.cells #[UE UL c.u,UE UL c.g] 64)) ((X.setCell ⟨w1.heap.size,6,none⟩ (UE UL t)).setCell ⟨w1.heap.size,7,none⟩ (UE UL now)):=((bC.o.setCell hsz _).setCell hsz _);generalize World.setCell _ _ _=Y at rs eT⊢;obtain⟨q0,q1,q2,q3,q4,q5,q6,q7,q8,q9,q10,q11⟩:=ax.fO (x0:=UE UL d.no) rs;have pc0:Y.cell? ⟨pw,0,none⟩=some (UH (some ⟨R.pt,0,none⟩)):=((ar (ao (UB w) (.cells #[UE UL c.u,UE UL c.g] 64)) eT).cell (p:=⟨pw,0,none⟩) T9.o).trans (ni.o 0);have HS:=Ux (ey.o _ eT.drew);have HY:=Ux eT;clear rs eT dc df dz
  try clear cc
  refine aG 5 mixed (by kernel_rfl) eQ ?_;simp only[List.take_succ_cons,List.take_zero,List.drop_succ_cons,List.drop_zero]
  repeat still_step
  refine wpStill_nil ?_;go_wp2_with fail;refine HS.o.mono ?_;rintro e w5 ⟨rfl,R',ez,dw,-,-⟩;have HR:=Ux (ag ez dw);clear ez dw;go_wp2_with fail;go_ret;rw[HE.o];exact⟨rfl,R',HR.o.1,(aS.aq (ar (ao (Below.refl _ _) _) HY.o.drew)).trans HR.o.2⟩
end
end
section
open Go.RowKit
section
variable{w w':World}{pw:Nat}{R:Rp}{S:Fs}
theorem M4(h:bB w pw R S){N:Nat}(hk:ay S N)(hN:N≤999999)(c:Cr)(now dir:Int)(s:ByteArray)(hs:s.size≤9223372036854775807)(mode:Int) :
  Calls Tryz.prog 63 #[UH (some ⟨pw,0,none⟩),UJ #[UE UL c.u,UE UL c.g],UE UL now,UE UL dir,UF s,UE UL mode] w fun e w'=>
   e=.returned (UK #[UE UL (S.aN c now dir s mode).2.1,UE UL (S.aN c now dir s mode).2.2])∧∃R',bB w' pw R' (S.aN c now dir s mode).1∧aS (R.F pw) (R'.F pw) w w':=by
 have HP:=Ux (fun w1 (av:UA w w1)=>xE (h.an av) hk hN c now dir s hs {dD with kind:=1,mode:=mode,up:=dir} rfl (by show(0:Nat)≤_;omega));unfold An.v dD at HP;have HW:=Ux h;clear h hk;by_cases h1:mode<0
 ·have HE:=Ux (show S.aN c now dir s mode=(S,0,1) by unfold Fs.aN;rw[if_pos (.inl h1)]);go_enter Tryz.func63,Tryz.ntmps63;go_wp2_with fail;go_ret2;rw[HE.o];exact⟨rfl,R,HW.o.an (by go_grown),aS.aq (by go_grown)⟩
 ·skip
  by_cases h2:1023<mode
  ·have HE:=Ux (show S.aN c now dir s mode=(S,0,1) by unfold Fs.aN;rw[if_pos (.inr h2)]);go_enter Tryz.func63,Tryz.ntmps63;go_wp2_with fail;go_ret2;rw[HE.o];exact⟨rfl,R,HW.o.an (by go_grown),aS.aq (by go_grown)⟩
  ·skip
   have HE:=Ux (show S.aN c now dir s mode=S.bT c now dir s {dD with kind:=1,mode:=mode,up:=dir} by unfold Fs.aN;rw[if_neg (by omega)]);unfold dD at HE;go_enter Tryz.func63,Tryz.ntmps63;go_wp2_with fail;refine(HP.o _ (by first|exact Below.refl _ _|exact ao (Below.refl _ _) _|exact ao (ao (Below.refl _ _) _) _)).mono ?_;rintro e w1 ⟨rfl,R1,ez,wA⟩;have nG:=Ux (ag ez wA);clear ez wA HP;go_wp2_with fail;go_ret2;rw[HE.o];exact⟨rfl,R1,nG.o.1,(aS.aq (by go_grown)).trans nG.o.2⟩
theorem JZ(h:bB w pw R S){N:Nat}(hk:ay S N)(hN:N≤999999)(c:Cr)(now dir:Int)(s:ByteArray)(hs:s.size≤9223372036854775807)(mode:Int)(data:ByteArray)(hd:data.size≤9223372036854775807) :
  Calls Tryz.prog 36 #[UH (some ⟨pw,0,none⟩),UJ #[UE UL c.u,UE UL c.g],UE UL now,UE UL dir,UF s,UE UL mode,UF data] w fun e w'=>
   e=.returned (UK #[UE UL (S.file c now dir s mode data).2.1,UE UL (S.file c now dir s mode data).2.2])∧∃R',bB w' pw R' (S.file c now dir s mode data).1∧aS (R.F pw) (R'.F pw) w w':=by
 have HP:=Ux (fun w1 (av:UA w w1)=>xE (h.an av) hk hN c now dir s hs {dD with kind:=2,mode:=mode,data:=data} rfl (hd));unfold An.v dD at HP;have HW:=Ux h;clear h hk;by_cases h1:mode<0
 ·have HE:=Ux (show S.file c now dir s mode data=(S,0,1) by unfold Fs.file;rw[if_pos (.inl h1)]);go_enter Tryz.func36,Tryz.ntmps36;go_wp2_with fail;go_ret2;rw[HE.o];exact⟨rfl,R,HW.o.an (by go_grown),aS.aq (by go_grown)⟩
 ·skip
  by_cases h2:1023<mode
  ·have HE:=Ux (show S.file c now dir s mode data=(S,0,1) by unfold Fs.file;rw[if_pos (.inr h2)]);go_enter Tryz.func36,Tryz.ntmps36;go_wp2_with fail;go_ret2;rw[HE.o];exact⟨rfl,R,HW.o.an (by go_grown),aS.aq (by go_grown)⟩
  ·skip
   by_cases h3:1048576<data.size
   ·have HE:=Ux (show S.file c now dir s mode data=(S,0,3) by unfold Fs.file;rw[if_neg (by omega),if_pos h3]);have h3n:(1048576:Int)<(data.size:Int):=by omega
    go_enter Tryz.func36,Tryz.ntmps36;go_wp2_with fail;go_ret2;rw[HE.o];exact⟨rfl,R,HW.o.an (by go_grown),aS.aq (by go_grown)⟩
   ·skip
    have h3n:¬(1048576:Int)<(data.size:Int):=by omega
    have HE:=Ux (show S.file c now dir s mode data=S.bT c now dir s {dD with kind:=2,mode:=mode,data:=data} by unfold Fs.file;rw[if_neg (by omega),if_neg h3]);unfold dD at HE;go_enter Tryz.func36,Tryz.ntmps36;go_wp2_with fail;refine(HP.o _ (by first|exact Below.refl _ _|exact ao (Below.refl _ _) _|exact ao (ao (Below.refl _ _) _) _)).mono ?_;rintro e w1 ⟨rfl,R1,ez,wA⟩;have nG:=Ux (ag ez wA);clear ez wA HP;go_wp2_with fail;go_ret2;rw[HE.o];exact⟨rfl,R1,nG.o.1,(aS.aq (by go_grown)).trans nG.o.2⟩
theorem Ll(h:bB w pw R S){N:Nat}(hk:ay S N)(hN:N≤999999)(c:Cr)(now dir:Int)(s:ByteArray)(hs:s.size≤9223372036854775807)(text:ByteArray)(hd:text.size≤9223372036854775807) :
  Calls Tryz.prog 125 #[UH (some ⟨pw,0,none⟩),UJ #[UE UL c.u,UE UL c.g],UE UL now,UE UL dir,UF s,UF text] w fun e w'=>
   e=.returned (UK #[UE UL (S.sym c now dir s text).2.1,UE UL (S.sym c now dir s text).2.2])∧∃R',bB w' pw R' (S.sym c now dir s text).1∧aS (R.F pw) (R'.F pw) w w':=by
 have HP:=Ux (fun w1 (av:UA w w1)=>xE (h.an av) hk hN c now dir s hs {dD with kind:=3,mode:=511,data:=text} rfl (hd));unfold An.v dD at HP;have HW:=Ux h;clear h hk;have H0:=Ux (lD text);have hb:hasB text 0=decide ((0:UInt8)∈text.data.toList):=rfl;have cB:=Ux hb.symm;clear hb;generalize hasB text 0=b0 at H0 cB;by_cases h1:text.toList=[]
 ·have HE:=Ux (show S.sym c now dir s text=(S,0,1) by unfold Fs.sym;rw[if_pos (.inl (by rw[←cd];exact h1))]);go_enter Tryz.func125,Tryz.ntmps125;go_wp2_with (go_at_call 119;((with_reducible refine(H0.o _).mono ?_);rintro e w1 ⟨rfl,rfl⟩));go_ret2;rw[HE.o];exact⟨rfl,R,HW.o.an (by go_grown),aS.aq (by go_grown)⟩
 ·skip
  have o8:text.toList.isEmpty=false:=by simpa using h1
  by_cases h2:b0=true
  ·have HE:=Ux (show S.sym c now dir s text=(S,0,1) by unfold Fs.sym;rw[if_pos (.inr (of_decide_eq_true (cB.o.trans h2)))]);subst h2;go_enter Tryz.func125,Tryz.ntmps125;go_wp2_with (go_at_call 119;((with_reducible refine(H0.o _).mono ?_);rintro e w1 ⟨rfl,rfl⟩));go_ret2;rw[HE.o];exact⟨rfl,R,HW.o.an (by go_grown),aS.aq (by go_grown)⟩
  ·skip
   have kR:b0=false:=by simpa using h2
   subst kR;by_cases h3:4096<text.size
   ·have HE:=Ux (show S.sym c now dir s text=(S,0,13) by unfold Fs.sym;rw[if_neg (by rintro(h|h);exact h1 (by rw[cd];exact h);exact absurd (cB.o.symm.trans (decide_eq_true h)) (by decide)),if_pos h3]);have h3n:(4096:Int)<(text.size:Int):=by omega
    go_enter Tryz.func125,Tryz.ntmps125;go_wp2_with (go_at_call 119;((with_reducible refine(H0.o _).mono ?_);rintro e w1 ⟨rfl,rfl⟩));go_ret2;rw[HE.o];exact⟨rfl,R,HW.o.an (by go_grown),aS.aq (by go_grown)⟩
   ·skip
    have h3n:¬(4096:Int)<(text.size:Int):=by omega
    have HE:=Ux (show S.sym c now dir s text=S.bT c now dir s {dD with kind:=3,mode:=511,data:=text} by unfold Fs.sym;rw[if_neg (by rintro(h|h);exact h1 (by rw[cd];exact h);exact absurd (cB.o.symm.trans (decide_eq_true h)) (by decide)),if_neg h3]);unfold dD at HE;go_enter Tryz.func125,Tryz.ntmps125;go_wp2_with (go_at_call 119;((with_reducible refine(H0.o _).mono ?_);rintro e w1 ⟨rfl,rfl⟩));refine(HP.o _ (by first|exact Below.refl _ _|exact ao (Below.refl _ _) _|exact ao (ao (Below.refl _ _) _) _)).mono ?_;rintro e w1 ⟨rfl,R1,ez,wA⟩;have nG:=Ux (ag ez wA);clear ez wA HP;go_wp2_with fail;go_ret2;rw[HE.o];exact⟨rfl,R1,nG.o.1,(aS.aq (by go_grown)).trans nG.o.2⟩
end
end
end Go.Proofs.YtabbjaomlmnnhaaGreat
