import Derived.RegionTactic
import Derived.BigRegion
import Derived.Deep.CutBlock
import Derived.Deep.DeepCutAuto
import Derived.Test.YtabbjaomlmnnhaaGreatCS7
import Derived.Test.YtabbjaomlmnnhaaGreatCS6
set_option linter.unusedVariables false
set_option linter.unusedSimpArgs false
set_option maxRecDepth 100000
set_option maxHeartbeats 16000000
namespace Go.Proofs.YtabbjaomlmnnhaaGreat
section
open Go.RowKit
section
variable{w w':World}{pw:Nat}{R:Rp}{S:Fs}
theorem I7{S:Fs}{c:Cr}{now no dir:Int}{s:ByteArray}(h:S.aP c dir s≠0):S.ez c now no dir s=(S,S.aP c dir s):=by unfold Fs.ez;rw[if_pos h]
theorem Dk{S:Fs}{c:Cr}{now no dir:Int}{s:ByteArray}{d:An}(h:S.aP c dir s=0)(hg:S.get dir=some d)(hn:S.get no=none):S.ez c now no dir s=(S,5):=by
 unfold Fs.ez;rw[if_neg (by simp[h]),hg,hn]
theorem I8{S:Fs}{c:Cr}{now no dir:Int}{s:ByteArray}{d n:An}(h:S.aP c dir s=0)(hg:S.get dir=some d)(hn:S.get no=some n):S.ez c now no dir s =
  if n.kind=1 then(S,4) else if aF d.ay s≠0 then(S,7) else if n.dev≠d.dev then(S,11) else if 1000≤n.ao then(S,18)
  else((S.set {n with ao:=n.ao+1,ctime:=now}).bE now dir (ct d.ay s no),0):=by
 unfold Fs.ez;rw[if_neg (by simp[h]),hg,hn]
theorem CU{S:Fs}{c:Cr}{dir:Int}{s:ByteArray}{d:An}(h:S.aP c dir s=0)(hg:S.get dir=some d):d.kind=1:=by
 unfold Fs.aP at h;rw[hg] at h;simp only at h;by_cases hk:d.kind=1
 ·exact hk
 ·rw[if_pos hk] at h;cases h
theorem FP(h:bm w pw R S){N:Nat}(hk:ax S N)(hN:N≤999999)(c:Cr)(now no dir:Int)(s:ByteArray)(hs:s.size≤9223372036854775807) :
  Calls Tryz.prog 126 #[.pointer (some ⟨pw,0,none⟩),.agg #[.int .i64 c.u,.int .i64 c.g],.int .i64 now,.int .i64 no,.int .i64 dir,.string s] w fun e w'=>
   e=.returned (.int .i64 (S.ez c now no dir s).2)∧∃R',bm w' pw R' (S.ez c now no dir s).1∧aR (R.F pw) (R'.F pw) w w':=by
 have HP:=Qf (fun w1 (av:Qi w w1)=>lA (h.ak av) hk c dir s hs);have HW:=Qf h;have HK:=Qf hk;have mixed:Tryz.prog.follows .mixedOrders=true:=by kernel_rfl
 obtain⟨pc,-,pz⟩:=h.aZ.facts;have lP:=Qf (fun w1 (av:Qi w w1)=>show w1.cell? ⟨pw,0,none⟩=some (.pointer (some ⟨R.pt,0,none⟩)) from(av.cell (p:=⟨pw,0,none⟩) pz).trans (pc 0));clear h hk;go_enter Tryz.func126,Tryz.ntmps126;go_wp2_with fail;refine(HP.o _ (aq (Below.refl _ _) _)).mono ?_;clear HP pc pz;rintro e w1 ⟨⟨h0,rfl⟩|⟨h0,d,ea,el,ec,hg,rfl,he⟩,av⟩
 ·have aI:=au (aq (Qj w) _) av;have HB:=Qf aI;have HC:=Qf (I7 (now:=now) (no:=no) h0);have hz:(S.aP c dir s==0)=false:=by simpa using h0
  generalize S.aP c dir s=pe at HC hz⊢;unfold An.v cS;clear h0 av aI;go_wp2_with fail;go_ret;rw[HC.o];exact⟨rfl,R,HW.o.ak (aq HB.o _),aR.ar (aq HB.o _)⟩
 ·have aI:=aq av (.cells #[.int .i64 d.no,.int .i64 d.dev,.int .i64 d.kind,.int .i64 d.mode,.int .i64 d.uid,.int .i64 d.gid,.int .i64 d.mtime,.int .i64 d.ctime,.int .i64 d.ao,.int .i64 d.up,.string d.data,.slice ea el ec] 149);have gV:=aw.new w1 #[.int .i64 d.no,.int .i64 d.dev,.int .i64 d.kind,.int .i64 d.mode,.int .i64 d.uid,.int .i64 d.gid,.int .i64 d.mtime,.int .i64 d.ctime,.int .i64 d.ao,.int .i64 d.up,.string d.data,.slice ea el ec] 149;have K6:=av.size;have HE:=Qf he;have HG:=Qf hg;have Nw:=Qf (CU h0 hg);have H0:=Qf h0;unfold An.v;clear h0 av he hg;go_upto_region 2 with fail;generalize w1.alloc _=X at aI gV⊢;have pcX:=lP.o X (au (aq (Below.refl _ _) _) aI);have aW:=Qf aI;have yU:=Qf gV;have hsX:w1.heap.size<X.heap.size:=gV.lt;clear aI gV
  cases hn:S.get no with
  |none=>
   have HG0:=Qf (fK (HW.o.ak (au (aq (Below.refl _ _) _) aW.o)) hn);have HZ:=Qf (Dk (now:=now) H0.o HG.o hn);unfold An.v cS at HG0;clear hn;go_wp2_with fail;refine HG0.o.mono ?_;rintro e w2 ⟨rfl,aS⟩;have HB:=Qf (aq (aW.o.trans (aS.mono aW.o.size)) (.cells #[.int .i64 0,.int .i64 0,.int .i64 0,.int .i64 0,.int .i64 0,.int .i64 0,.int .i64 0,.int .i64 0,.int .i64 0,.int .i64 0,.string ByteArray.empty,.slice none 0 0] 149));clear aS;go_wp2_with fail;go_ret;rw[HZ.o];exact⟨rfl,R,HW.o.ak (au (aq (Below.refl _ _) _) HB.o),aR.ar (au (aq (Below.refl _ _) _) HB.o)⟩
  |some n=>
   obtain⟨na,nl,nc,hne,hNG⟩:=eV HW.o hn;have HNG:=Qf (hNG X (au (aq (Below.refl _ _) _) aW.o));have HQ:=Qf (I8 (now:=now) H0.o HG.o hn);have Mh:=Qf hn;have HNE:=Qf hne;unfold An.v at HNG;clear hn hNG hne;go_wp2_with fail;refine HNG.o.mono ?_;rintro e w2 ⟨rfl,aS⟩;have dX:=aq (aW.o.trans (aS.mono aW.o.size)) (.cells #[.int .i64 n.no,.int .i64 n.dev,.int .i64 n.kind,.int .i64 n.mode,.int .i64 n.uid,.int .i64 n.gid,.int .i64 n.mtime,.int .i64 n.ctime,.int .i64 n.ao,.int .i64 n.up,.string n.data,.slice na nl nc] 149);have pF:=(yU.o.ak aS).old (.cells #[.int .i64 n.no,.int .i64 n.dev,.int .i64 n.kind,.int .i64 n.mode,.int .i64 n.uid,.int .i64 n.gid,.int .i64 n.mtime,.int .i64 n.ctime,.int .i64 n.ao,.int .i64 n.up,.string n.data,.slice na nl nc] 149);have hNY:=aw.new w2 #[.int .i64 n.no,.int .i64 n.dev,.int .i64 n.kind,.int .i64 n.mode,.int .i64 n.uid,.int .i64 n.gid,.int .i64 n.mtime,.int .i64 n.ctime,.int .i64 n.ao,.int .i64 n.up,.string n.data,.slice na nl nc] 149;have De:(w.alloc (.cells #[.int .i64 c.u,.int .i64 c.g] 64)).heap.size≤w2.heap.size:=by have:=aS.size;omega
   have hne:w2.heap.size≠w1.heap.size:=by have:=aS.size;omega
   have hlk:=(HK.o.get Mh.o).1.ao;clear aS pcX;go_upto_region 5 with fail;generalize w2.alloc _=Y at dX pF hNY⊢;obtain⟨hdo,-,-,-⟩:=HK.o.get HG.o;have heY:=HE.o.ak dX;have hfew:el≤1000000:=by rw[←HE.o.len];exact ae hdo.mJ (by omega)
   have HF:=Qf (fX d.ay ea el ec s Y heY hdo.eE hfew);have Ml:=Qf hfew;obtain⟨kc,kf,kz⟩:=hNY.facts;obtain⟨dc,df,dz⟩:=pF.facts;have lS:=Qf dX;have HDY:=Qf pF;have HNY:=Qf hNY;clear dX pF hNY heY hdo hfew;by_cases h1:n.kind=1
   ·have oC:(n.kind==1)=true:=by simpa using h1
    have HZ:=Qf (HQ.o.trans (if_pos h1));clear h1;go_wp2_with fail;go_ret;rw[HZ.o];exact⟨rfl,R,HW.o.ak (au (aq (Below.refl _ _) _) lS.o),aR.ar (au (aq (Below.refl _ _) _) lS.o)⟩
   have oC:(n.kind==1)=false:=by simpa using h1
   have pN:=Qf (HQ.o.trans (if_neg h1));have PZ:=Qf h1;clear h1 HQ;go_wp2_with fail;refine HF.o.mono ?_;rintro e w3 ⟨rfl,bK⟩;have fG:=Qf (lS.o.trans (bK.mono lS.o.size));have KF:=Qf (HDY.o.ak bK);have Mc:=Qf (HNY.o.ak bK);have MX:=KF.o;have G1:=Mc.o;clear bK kc kf kz dc df dz HF;obtain⟨kc,kf,kz⟩:=G1.facts;obtain⟨dc,df,dz⟩:=MX.facts;clear G1 MX;by_cases hf:aF d.ay s=0
   ·have hfz:(aF d.ay s != 0)=false:=by simpa using hf
    have sP:=Qf (pN.o.trans (if_neg (by simp[hf])));have P3:=Qf hf;clear hf pN;generalize aF d.ay s=f at hfz⊢;by_cases h2:n.dev=d.dev
    ·have kq:(n.dev != d.dev)=false:=by simpa using h2
     have DX:=Qf (sP.o.trans (if_neg (by simp[h2])));clear h2 sP;by_cases h3:1000≤n.ao
     ·have HZ:=Qf (DX.o.trans (if_pos h3));go_wp2_with fail;go_ret;rw[HZ.o];exact⟨rfl,R,HW.o.ak (au (aq (Below.refl _ _) _) fG.o),aR.ar (au (aq (Below.refl _ _) _) fG.o)⟩
     ·have HZ:=Qf (DX.o.trans (if_neg h3));clear DX;go_wp2_with fail;have MW:=((KF.o.setOther ⟨w2.heap.size,8,none⟩ (.int .i64 (n.ao+1)) hne).setOther ⟨w2.heap.size,7,none⟩ (.int .i64 now) hne).drew;have hNZ:=(Mc.o.set 8 (.int .i64 (n.ao+1))).set 7 (.int .i64 now);have D4:Below (w.alloc (.cells #[.int .i64 c.u,.int .i64 c.g] 64)).heap.size (w.alloc (.cells #[.int .i64 c.u,.int .i64 c.g] 64)) ((w3.setCell ⟨w2.heap.size,8,none⟩ (.int .i64 (n.ao+1))).setCell ⟨w2.heap.size,7,none⟩ (.int .i64 now)):=(fG.o.setCell De _).setCell De _;generalize (w3.setCell ⟨w2.heap.size,8,none⟩ (.int .i64 (n.ao+1))).setCell ⟨w2.heap.size,7,none⟩ (.int .i64 now)=Z at MW hNZ D4⊢;obtain⟨q0,q1,q2,q3,q4,q5,q6,q7,q8,q9,q10,q11⟩:=aw.fB (x0:=.int .i64 n.no) hNZ;have pc0:=lP.o Z (au (aq (Below.refl _ _) _) D4);have Ls:=HW.o.ak (au (aq (Below.refl _ _) _) D4.drew);have ed:=Qf (Ls.zJ {n with ao:=n.ao+1,ctime:=now} (HNE.o.ak (au (aq (Below.refl _ _) _) D4.drew)) (b:=n) (by rw[show({n with ao:=n.ao+1,ctime:=now}:An).no=n.no from rfl,cj Mh.o];exact Mh.o));have HWZ:=Qf Ls;have HEZ:=Qf (HE.o.ak D4.drew);have HDZ:=Qf MW;have qg:=Qf D4;unfold An.v at ed;clear MW hNZ D4 Ls kc kf kz dc df dz;refine aG 5 mixed (by kernel_rfl) eX ?_;simp only[List.take_succ_cons,List.take_zero,List.drop_succ_cons,List.drop_zero]
      repeat still_step
      refine wpStill_nil ?_;go_wp2_with fail;refine ed.o.mono ?_;rintro e w5 ⟨rfl,R5,gH,eJ,-,-⟩;have Ak:=HDZ.o.wd HWZ.o eJ rfl;have OB:=HEZ.o.wd HWZ.o eJ;have hg5:(S.set {n with ao:=n.ao+1,ctime:=now}).get dir=some d:=by
       rw[iM (a:={n with ao:=n.ao+1,ctime:=now}) (b:=n) (by rw[show({n with ao:=n.ao+1,ctime:=now}:An).no=n.no from rfl,cj Mh.o];exact Mh.o),if_neg]
       ·exact HG.o
       ·intro hdn;have:dir=no:=hdn.trans (show n.no=no from cj Mh.o);have h4:=HG.o;rw[this,Mh.o] at h4;injection h4 with h4;exact PZ.o (by rw[h4];exact Nw.o)
      have DY:=Qf (rP d.ay ea el ec s no w5 OB (HK.o.get HG.o).1.eE Ml.o (nx (HK.o.get HG.o).1.nz P3.o));have D9:=Qf (fun l a n c w6 (fo:Qi w5 w6) (hl:aA w6 a n c l)=>lg (gH.ak fo) dir now d hg5 l a n c hl);have G5:=Qf ((aR.ar (au (aq (Below.refl _ _) _) qg.o.drew)).trans eJ);obtain⟨dc,df,dz⟩:=Ak.facts;clear Ak OB hg5 gH eJ pc0 q0 q1 q2 q3 q4 q5 q6 q7 q8 q9 q10 q11;go_wp2_with fail;refine DY.o.mono ?_;rintro e w6 ⟨⟨a',n',c',rfl,he6⟩,fo⟩;have HT:=Qf (D9.o _ _ _ _ w6 fo he6);have jx:=Qf fo;clear he6 fo D9 DY;go_wp2_with fail;refine HT.o.mono ?_;rintro e w7 ⟨rfl,R7,Aw,iU⟩;have HR7:=Qf (ag Aw iU);clear Aw iU HT;go_wp2_with fail;go_ret;rw[HZ.o];exact⟨rfl,R7,HR7.o.1,(G5.o.trans (aR.ar jx.o)).trans HR7.o.2⟩
    ·have kq:(n.dev != d.dev)=true:=by simpa using h2
     have HZ:=Qf (sP.o.trans (if_pos h2));clear h2 sP;go_wp2_with fail;go_ret;rw[HZ.o];exact⟨rfl,R,HW.o.ak (au (aq (Below.refl _ _) _) fG.o),aR.ar (au (aq (Below.refl _ _) _) fG.o)⟩
   ·have hfz:(aF d.ay s != 0)=true:=by simpa using hf
    have HZ:=Qf (pN.o.trans (if_pos hf));clear hf pN;generalize aF d.ay s=f at hfz⊢;go_wp2_with fail;go_ret;rw[HZ.o];exact⟨rfl,R,HW.o.ak (au (aq (Below.refl _ _) _) fG.o),aR.ar (au (aq (Below.refl _ _) _) fG.o)⟩
end
end
section
open Go.RowKit
def vn(x:Int×Int):List Value:=[.int .i64 x.1,.int .i64 x.2]
theorem fg(x:Int×Int):(vn x).length=2:=rfl
def lM(cs:List Value)(x:Int×Int):Prop:=cs=vn x
structure bg(w:World)(pf pw:Nat)(R:Rp)(pv:Value)(Y:Sy):Prop where
 aZ:aw w pf #[.pointer (some ⟨pw,0,none⟩),.int .i64 Y.now,.int .i64 Y.count,pv,.bool Y.dead] 42
 wd:bm w pw R Y.fs
 bQ:w.ownsRow 0 162 2 pv Y.bQ.length (Y.bQ.flatMap vn)
def Rp.Y(R:Rp)(pf pw:Nat)(k:Nat):Prop:=k=pf∨R.F pw k
section
variable{w w':World}{pf pw:Nat}{R:Rp}{pv:Value}{Y:Sy}
theorem bg.ak(h:bg w pf pw R pv Y)(hb:Qi w w'):bg w' pf pw R pv Y:=
 ⟨h.aZ.ak hb,h.wd.ak hb,dD h.bQ hb (aa _)⟩
theorem bg.apart(h:bg w pf pw R pv Y){k:Nat}(hk:R.F pw k):k≠pf:=by
 rintro rfl;obtain⟨o,ho,hd⟩:=h.wd.kind hk;have hb:=h.aZ;unfold aw at hb;rw[hb] at ho;injection ho with ho;subst ho
 cases hd
theorem bg.mu(h:bg w pf pw R pv Y){k:Nat}(hk:R.Y pf pw k):pv.ownBlock≠some k:=by
 intro he;obtain⟨-,cur,hc⟩:=aD h.bQ he;rcases hk with rfl|hk
 ·have hb:=h.aZ;unfold aw at hb;rw[hb] at hc
  cases hc
 ·obtain⟨o,ho,hd⟩:=h.wd.kind hk;rw[hc] at ho;injection ho with ho;subst ho
  cases hd
theorem bg.step(h:bg w pf pw R pv Y){R':Rp}{S:Fs}(hw:bm w' pw R' S)(hs:aR (R.F pw) (R'.F pw) w w'):bg w' pf pw R' pv {Y with fs:=S}:=
 ⟨h.aZ.mod hs.mod (fun hk=>h.apart hk rfl),hw,bI h.bQ hs.mod (fun k hk=>h.mu (.inr hk))⟩
theorem bg.sZ(h:bg w pf pw R pv Y)(hm:Mod (fun k=>k=pf) w w'){Z:Sy}(hz:Z.fs=Y.fs)(hp:Z.bQ=Y.bQ)(hb:aw w' pf #[.pointer (some ⟨pw,0,none⟩),.int .i64 Z.now,.int .i64 Z.count,pv,.bool Z.dead] 42):bg w' pf pw R pv Z:=
 ⟨hb,by rw[hz];exact h.wd.mod hm (fun k o hk ho=>by
   subst hk;have hb:=h.aZ;unfold aw at hb;rw[hb] at ho;injection ho with ho;subst ho;exact⟨rfl,fun cur e=>by cases e⟩),
  by rw[hp];exact bI h.bQ hm (fun k hk=>h.mu (.inl hk))⟩
theorem gw{R R':Rp}{pf pw:Nat}{w w':World}(h:aR (R.F pw) (R'.F pw) w w'):aR (R.Y pf pw) (R'.Y pf pw) w w':=
 ⟨h.mod.mono (fun k hk=>.inr hk),fun k hk=>hk.elim (fun e=>.inl (.inl e)) (fun hk=>(h.new k hk).imp .inr id)⟩
theorem uD{R:Rp}{pf pw:Nat}{w w':World}(h:Mod (fun k=>k=pf) w w'):aR (R.Y pf pw) (R.Y pf pw) w w':=aR.cQ (h.mono (fun k hk=>.inl hk))
theorem gy(h:bg w pf pw R pv Y) :
  Calls Tryz.prog 41 #[.pointer (some ⟨pf,0,none⟩)] w fun e w'=>e=.returned (.bool false)∧w=w':=by
 obtain⟨pc,-,-⟩:=h.aZ.facts;clear h;go_enter Tryz.func41,Tryz.ntmps41;go_wp2_with fail;go_ret;exact⟨rfl,rfl⟩
theorem gx(h:bg w pf pw R pv Y) :
  Calls Tryz.prog 31 #[.pointer (some ⟨pf,0,none⟩)] w fun e w'=>e=.returned (.int .i64 (if Y.dead then 20 else 0))∧w=w':=by
 have HN:=Qf (gy h);obtain⟨pc,-,-⟩:=h.aZ.facts;clear h
 cases hd:Y.dead with
 |true=>
  rw[hd] at pc;clear hd;go_enter Tryz.func31,Tryz.ntmps31;go_wp2_with (refine HN.o.mono ?_;rintro e w1 ⟨rfl,rfl⟩);go_ret;exact⟨rfl,rfl⟩
 |false=>
  rw[hd] at pc;clear hd;go_enter Tryz.func31,Tryz.ntmps31;go_wp2_with (refine HN.o.mono ?_;rintro e w1 ⟨rfl,rfl⟩);go_ret;exact⟨rfl,rfl⟩
theorem yA(h:Y.dead=true):Y.change=(Y,20):=by unfold Sy.change;rw[if_pos h]
theorem pq(h:Y.dead=false)(hf:∀x∈Y.bQ,x.1≠Y.count+1):Y.change=({Y with count:=Y.count+1},0):=by
 unfold Sy.change;rw[if_neg (by simp[h])];rw[List.find?_eq_none.2 (by simpa using hf)]
theorem DK(h:Y.dead=false){i:Nat}(hi:i<Y.bQ.length)(hb:∀j (hj:j<Y.bQ.length),j<i→Y.bQ[j].1≠Y.count+1)(he:Y.bQ[i].1=Y.count+1) :
  Y.change=({Y with count:=Y.count+1,dead:=Y.bQ[i].2==20},Y.bQ[i].2):=by
 unfold Sy.change;rw[if_neg (by simp[h])];have:Y.bQ.find? (fun x=>x.1==Y.count+1)=some Y.bQ[i]:=by
  rw[List.find?_eq_some_iff_getElem];exact⟨by simpa using he,i,hi,rfl,fun j hj=>by simpa using hb j (by omega) hj⟩
 rw[this]
theorem fj(h:bg w pf pw R pv Y)(hc:0≤Y.count∧Y.count≤4611686018427387904)(hl:Y.bQ.length≤1000000) :
  Calls Tryz.prog 35 #[.pointer (some ⟨pf,0,none⟩)] w fun e w'=>e=.returned (.int .i64 Y.change.2)∧bg w' pf pw R pv Y.change.1∧Mod (fun k=>k=pf) w w':=by
 have HR:=Qf (gx h);have HY:=Qf h;obtain⟨OK,iS⟩:=hc;obtain⟨pc,pf',pz⟩:=h.aZ.facts
 cases hd:Y.dead with
 |true=>
  have HE:=Qf (yA hd);rw[hd] at HR;clear h hd;go_enter Tryz.func35,Tryz.ntmps35;go_wp2_with (refine HR.o.mono ?_;rintro e w1 ⟨rfl,rfl⟩);go_ret;rw[HE.o];exact⟨rfl,HY.o,Mod.refl _ _⟩
 |false=>
  rw[hd] at HR pc;have HD:=Qf hd;obtain⟨pa,pcap,rfl,hle,xZ,hpf⟩:=bC h.bQ;have hSl:=eo (R:=lM) (by omega) fg (fun _=>rfl) h.bQ;have G4:=Qf hSl;have HPf:=Qf hpf;clear h hd hSl hpf;go_enter Tryz.func35,Tryz.ntmps35;have eU:=HY.o.aZ;rw[HD.o] at eU;have dO:=Qf (eU.set 2 (.int .i64 (Y.count+1)));clear eU;go_wp2_with (refine HR.o.mono ?_;rintro e w1 ⟨rfl,rfl⟩)
  go_loopw [23] (fun t23 wr=>∃k:Nat,k≤Y.bQ.length∧t23=.int .i64 k∧aw wr pf #[.pointer (some ⟨pw,0,none⟩),.int .i64 Y.now,.int .i64 (Y.count+1),.slice pa Y.bQ.length pcap,.bool false] 42∧Mod (fun x=>x=pf) w wr∧(∀j (hj:j<Y.bQ.length),j<k→Y.bQ[j].1≠Y.count+1)) (fun t23 _=>Y.bQ.length-(intOf t23).toNat)
  case atStart=>exact⟨0,Nat.zero_le _,rfl,dO.o,(Mod.refl (fun x=>x=pf) w).setCell (a:=⟨pf,2,none⟩) (.inl rfl) _,fun j _ h=>absurd h (Nat.not_lt_zero _)⟩
  case round=>
   obtain⟨k,hk,rfl,hb,hm,hbef⟩:=hrel;have sW:=Qf hb;have HMw:=Qf hm;have JZ:=Qf hbef;obtain⟨bc,bf,bz⟩:=hb.facts;have hpl:=bI HY.o.bQ hm (fun k hk=>HY.o.mu (.inl hk));clear hb hbef;by_cases hlt:k<Y.bQ.length
   ·obtain⟨-,-,-,h0|⟨b,off,he,hbl,hel⟩⟩:=eo (R:=lM) (by omega) fg (fun _=>rfl) hpl
    ·omega
    ·subst he;obtain⟨cs,e1,e2,e3⟩:=hel k hlt;unfold lM at e2;subst e2;have c0:=e3 0 (by rw[fg];omega);have c1:=e3 1 (by rw[fg];omega);obtain⟨fa,fw,hfe⟩:∃fa fw,Y.bQ[k]=(fa,fw):=⟨_,_,rfl⟩;have HFe:=Qf hfe;have c0':wr.cell? ⟨b,off+k*2,none⟩=some (.int .i64 fa):=by rw[hfe] at c0;exact c0
     have c1':wr.cell? ⟨b,off+k*2+1,none⟩=some (.int .i64 fw):=by rw[hfe] at c1;exact c1
     have mixed:Tryz.prog.follows .mixedOrders=true:=by kernel_rfl
     clear hel e1 e3 c0 c1 hpl hm hfe;have hBX:=sW.o.old (.cells #[.int .i64 fa,.int .i64 fw] 162);have Dn:=HMw.o.alloc (.cells #[.int .i64 fa,.int .i64 fw] 162);have pD:=aw.new wr #[.int .i64 fa,.int .i64 fw] 162;go_upto_region 8 with fail;generalize wr.alloc _=X at hBX Dn pD⊢;have aW:=Qf hBX;have G':=Qf Dn;obtain⟨xc,xf,xz⟩:=pD.facts;clear bc bf bz c0' c1';obtain⟨bc,bf,bz⟩:=hBX.facts;clear hBX Dn pD;refine aG 6 mixed (by kernel_rfl) (show bL _ from by repeat (first|exact cG|refine cF ?_|refine bR ?_|refine cd ?_)) ?_;simp only[List.take_succ_cons,List.take_zero,List.drop_succ_cons,List.drop_zero]
     repeat still_step
     refine wpStill_nil ?_;by_cases he:fa=Y.count+1
     ·have HE:=Qf (DK HD.o hlt JZ.o (by rw[HFe.o];exact he));rw[HFe.o] at HE;have heb:(fa==Y.count+1)=true:=by simpa using he
      clear he;by_cases h20:fw=20
      ·have LQ:(fw==20)=true:=by simpa using h20
       have HV:=Qf (show(fw==20)=true from LQ);clear h20;go_wp2_with fail;go_ret;rw[HE.o];exact⟨rfl,HY.o.sZ (G'.o.drew.setCell (a:=⟨pf,4,none⟩) (.inl rfl) _) rfl rfl (by dsimp only;rw[HV.o];exact aW.o.drew.set 4 _),G'.o.drew.setCell (a:=⟨pf,4,none⟩) (.inl rfl) _⟩
      ·have LQ:(fw==20)=false:=by simpa using h20
       have HV:=Qf (show(fw==20)=false from LQ);clear h20;go_wp2_with fail;go_ret;rw[HE.o];exact⟨rfl,HY.o.sZ (G'.o.drew.setCell (a:=⟨pf,4,none⟩) (.inl rfl) _) rfl rfl (by dsimp only;rw[HV.o];exact aW.o.drew.set 4 _),G'.o.drew.setCell (a:=⟨pf,4,none⟩) (.inl rfl) _⟩
     ·have heb:(fa==Y.count+1)=false:=by simpa using he
      have HN:=Qf he;clear he;go_wp2_with fail;go_roundw
      case rel=>exact⟨k+1,by omega,by go_num,aW.o.drew,G'.o.drew,fun j hj Lc=>by
       by_cases hjk:j=k
       ·subst hjk;rw[HFe.o];exact HN.o
       ·exact JZ.o j hj (by omega)⟩
      case measure=>simp[intOf];omega
   ·obtain rfl:k=Y.bQ.length:=by omega
    have HE:=Qf (pq HD.o (fun x hx=>by obtain⟨j,hj,rfl⟩:=List.mem_iff_getElem.1 hx;exact JZ.o j hj hj));clear hm hpl;go_wp2_with fail;go_ret;rw[HE.o];exact⟨rfl,HY.o.sZ HMw.o rfl rfl (by rw[HD.o];exact sW.o),HMw.o⟩
end
end
section
open Go.RowKit
theorem kJ{tmps:Array Value}{W:World}{B:Nat}{a:An}{ea:Option Addr}{el ec:Nat}{e:Int}(hb:aw W B #[.int .i64 a.no,.int .i64 a.dev,.int .i64 a.kind,.int .i64 a.mode,.int .i64 a.uid,.int .i64 a.gid,.int .i64 a.mtime,.int .i64 a.ctime,.int .i64 a.ao,.int .i64 a.up,.string a.data,.slice ea el ec] 149)
  (h8:tmps.getD 6 undef=.pointer (some ⟨B,0,none⟩)) (h9:tmps.getD 7 undef=.int .i64 e):(results Tryz.f127 tmps).run Tryz.prog W=.ok (.tuple #[a.v ea el ec,.int .i64 e]) W:=by
 obtain⟨q0,q1,q2,q3,q4,q5,q6,q7,q8,q9,q10,q11⟩:=hb.fB;rw[Array.getD_eq_getD_getElem?] at h8 h9;simp[results,Tryz.results127,go_sem,An.v,h8,h9,q0,q1,q2,q3,q4,q5,q6,q7,q8,q9,q10,q11]
def Fs.gM(S:Fs)(c:Cr)(no:Int):Int:=match S.get no with
 |none=>5
 |some n=>if fV c n=false then 4 else 0
section
variable{w w':World}{pw:Nat}{R:Rp}{S:Fs}
theorem Fa(h:bm w pw R S){N:Nat}(hk:ax S N)(c:Cr)(no:Int)(hg:S.get no=none) :
  Calls Tryz.prog 127 #[.pointer (some ⟨pw,0,none⟩),.agg #[.int .i64 c.u,.int .i64 c.g],.int .i64 no] w fun e w'=>e=.returned (.tuple #[cS.v none 0 0,.int .i64 5])∧Qi w w':=by
 have lR:=Qf (fun w1 (av:Qi w w1)=>gv (h.ak av) hk.d1);have hnz:=hk.d1;generalize S.ds.length=n at lR hnz;have hz:((n:Int)==0)=false:=by simp;omega
 have HG:=Qf (fun w1 (av:Qi w w1)=>fK (h.ak av) hg);obtain⟨pc,-,pz⟩:=h.aZ.facts;unfold An.v cS at HG;clear h hk hg;go_enter Tryz.func127,Tryz.ntmps127;go_wp2_with fail;refine(lR.o _ (aq (aq (Below.refl _ _) _) _)).mono ?_;rintro e w1 ⟨rfl,rfl⟩;go_wp2_with fail;refine(HG.o _ (aq (aq (Below.refl _ _) _) _)).mono ?_;rintro e w1 ⟨rfl,av⟩;have aS:=au (aq (aq (Qj w) _) _) av;have hR:aw w1 (w.heap.size+1) #[.int .i64 0,.int .i64 0,.int .i64 0,.int .i64 0,.int .i64 0,.int .i64 0,.int .i64 0,.int .i64 0,.int .i64 0,.int .i64 0,.string ⟨#[]⟩,.slice none 0 0] 149:=by
  have:=((aw.new (w.alloc (.cells #[.int .i64 c.u,.int .i64 c.g] 64)) #[.int .i64 0,.int .i64 0,.int .i64 0,.int .i64 0,.int .i64 0,.int .i64 0,.int .i64 0,.int .i64 0,.int .i64 0,.int .i64 0,.string ⟨#[]⟩,.slice none 0 0] 149).ak av)
  rwa [World.size_alloc] at this
 have eu:=hR.old (.cells #[.int .i64 0,.int .i64 0,.int .i64 0,.int .i64 0,.int .i64 0,.int .i64 0,.int .i64 0,.int .i64 0,.int .i64 0,.int .i64 0,.string ByteArray.empty,.slice none 0 0] 149);have aI:=aq aS (.cells #[.int .i64 0,.int .i64 0,.int .i64 0,.int .i64 0,.int .i64 0,.int .i64 0,.int .i64 0,.int .i64 0,.int .i64 0,.int .i64 0,.string ByteArray.empty,.slice none 0 0] 149);clear hR av aS pc;go_upto_region 4 with fail;generalize w1.alloc _=X at eu aI⊢;have gd:=Qf eu;have aW:=Qf aI;obtain⟨rc,rf,rz⟩:=eu.facts;clear eu aI;go_wp2_with fail;exact bodyPost_ret (kJ (a:=cS) gd.o.dh rfl rfl) rfl ⟨rfl,aT aW.o (Nat.le_succ _)⟩
theorem E'(h:bm w pw R S){N:Nat}(hk:ax S N)(c:Cr)(no:Int)(d:An)(hg:S.get no=some d) :
  Calls Tryz.prog 127 #[.pointer (some ⟨pw,0,none⟩),.agg #[.int .i64 c.u,.int .i64 c.g],.int .i64 no] w fun e w'=>((fV c d=false∧e=.returned (.tuple #[cS.v none 0 0,.int .i64 4]))∨(fV c d=true∧∃ea el ec,e=.returned (.tuple #[d.v ea el ec,.int .i64 0])∧aA w ea el ec d.ay))∧Qi w w':=by
 have lR:=Qf (fun w1 (av:Qi w w1)=>gv (h.ak av) hk.d1);have hnz:=hk.d1;generalize S.ds.length=n at lR hnz;have hz:((n:Int)==0)=false:=by simp;omega
 obtain⟨ea,el,ec,he,hG⟩:=eV h hg;have HE:=Qf he;have HG:=Qf hG;unfold An.v at HG;have mS:=Qf (fun w=>og c d ea el ec w);unfold Cr.v An.v at mS;obtain⟨pc,-,pz⟩:=h.aZ.facts;generalize fV c d=my at mS⊢;clear h hk hg he hG;go_enter Tryz.func127,Tryz.ntmps127;go_wp2_with fail;refine(lR.o _ (aq (aq (Below.refl _ _) _) _)).mono ?_;rintro e w1 ⟨rfl,rfl⟩;go_wp2_with fail;refine(HG.o _ (aq (aq (Below.refl _ _) _) _)).mono ?_;rintro e w1 ⟨rfl,av⟩;have aS:=au (aq (aq (Qj w) _) _) av;have hR:aw w1 (w.heap.size+1) #[.int .i64 0,.int .i64 0,.int .i64 0,.int .i64 0,.int .i64 0,.int .i64 0,.int .i64 0,.int .i64 0,.int .i64 0,.int .i64 0,.string ⟨#[]⟩,.slice none 0 0] 149:=by
  have:=((aw.new (w.alloc (.cells #[.int .i64 c.u,.int .i64 c.g] 64)) #[.int .i64 0,.int .i64 0,.int .i64 0,.int .i64 0,.int .i64 0,.int .i64 0,.int .i64 0,.int .i64 0,.int .i64 0,.int .i64 0,.string ⟨#[]⟩,.slice none 0 0] 149).ak av)
  rwa [World.size_alloc] at this
 have vW:aw w1 w.heap.size #[.int .i64 c.u,.int .i64 c.g] 64:=((aw.new w #[.int .i64 c.u,.int .i64 c.g] 64).old (.cells #[.int .i64 0,.int .i64 0,.int .i64 0,.int .i64 0,.int .i64 0,.int .i64 0,.int .i64 0,.int .i64 0,.int .i64 0,.int .i64 0,.string ⟨#[]⟩,.slice none 0 0] 149)).ak av;have eu:=hR.old (.cells #[.int .i64 d.no,.int .i64 d.dev,.int .i64 d.kind,.int .i64 d.mode,.int .i64 d.uid,.int .i64 d.gid,.int .i64 d.mtime,.int .i64 d.ctime,.int .i64 d.ao,.int .i64 d.up,.string d.data,.slice ea el ec] 149);have gp:=vW.old (.cells #[.int .i64 d.no,.int .i64 d.dev,.int .i64 d.kind,.int .i64 d.mode,.int .i64 d.uid,.int .i64 d.gid,.int .i64 d.mtime,.int .i64 d.ctime,.int .i64 d.ao,.int .i64 d.up,.string d.data,.slice ea el ec] 149);have gV:=aw.new w1 #[.int .i64 d.no,.int .i64 d.dev,.int .i64 d.kind,.int .i64 d.mode,.int .i64 d.uid,.int .i64 d.gid,.int .i64 d.mtime,.int .i64 d.ctime,.int .i64 d.ao,.int .i64 d.up,.string d.data,.slice ea el ec] 149;have aI:=aq aS (.cells #[.int .i64 d.no,.int .i64 d.dev,.int .i64 d.kind,.int .i64 d.mode,.int .i64 d.uid,.int .i64 d.gid,.int .i64 d.mtime,.int .i64 d.ctime,.int .i64 d.ao,.int .i64 d.up,.string d.data,.slice ea el ec] 149);clear hR vW av aS pc;go_upto_region 4 with fail;generalize w1.alloc _=X at eu gp gV aI⊢;have gd:=Qf eu;have aW:=Qf aI;have yU:=Qf gV;have Ms:=Qf gp;obtain⟨rc,rf,rz⟩:=eu.facts;obtain⟨dc,df,dz⟩:=gV.facts;obtain⟨cc,-,-⟩:=gp.facts;clear eu aI gV gp;go_wp2_with fail;refine(mS.o _).mono ?_;rintro e w5 ⟨rfl,bU⟩;have mH:=gd.o.ak bU;have xY:=yU.o.ak bU;have rG:=aW.o.trans (bU.mono aW.o.size);have vI:=Qf mH;have vP:=Qf rG;clear rc rf rz dc df dz cc;obtain⟨rc,rf,rz⟩:=mH.facts;obtain⟨dc,-,-⟩:=xY.facts;clear mH rG bU xY
 cases my
 ·go_wp2_with fail;exact bodyPost_ret (kJ (a:=cS) vI.o.dh rfl rfl) rfl ⟨rfl,aT vP.o (Nat.le_succ _)⟩
 ·go_wp2_with fail;exact bodyPost_ret (kJ (a:=d) (ea:=ea) (el:=el) (ec:=ec) vI.o.dh rfl rfl) rfl ⟨⟨ea,el,ec,rfl,HE.o⟩,aT vP.o (Nat.le_succ _)⟩
theorem uT(h:bm w pw R S){N:Nat}(hk:ax S N)(c:Cr)(no:Int) :
  Calls Tryz.prog 127 #[.pointer (some ⟨pw,0,none⟩),.agg #[.int .i64 c.u,.int .i64 c.g],.int .i64 no] w fun e w'=>((S.gM c no≠0∧e=.returned (.tuple #[cS.v none 0 0,.int .i64 (S.gM c no)]))∨(S.gM c no=0∧∃d ea el ec,S.get no=some d∧e=.returned (.tuple #[d.v ea el ec,.int .i64 0])∧aA w ea el ec d.ay))∧Qi w w':=by
 cases hg:S.get no with
 |none=>
  refine(Fa h hk c no hg).mono ?_;rintro e w1 ⟨rfl,hb⟩;have:S.gM c no=5:=by unfold Fs.gM;rw[hg]
  rw[this];exact⟨.inl ⟨by decide,rfl⟩,hb⟩
 |some d=>
  refine(E' h hk c no d hg).mono ?_;rintro e w1 ⟨⟨h1,rfl⟩|⟨h1,ea,el,ec,h2,h3⟩,hb⟩
  ·have:S.gM c no=4:=by unfold Fs.gM;rw[hg];simp only;rw[if_pos h1]
   rw[this];exact⟨.inl ⟨by decide,rfl⟩,hb⟩
  ·have:S.gM c no=0:=by unfold Fs.gM;rw[hg];simp only;rw[if_neg (by simp[h1])]
   rw[this];exact⟨.inr ⟨rfl,d,ea,el,ec,rfl,h2,h3⟩,hb⟩
end
end
section
open Go.RowKit
section
variable{w w':World}{pw:Nat}{R:Rp}{S:Fs}
theorem qW{S:Fs}{c:Cr}{no:Int}{d:An}(h:S.gM c no=0)(hg:S.get no=some d):fV c d=true:=by
 unfold Fs.gM at h;rw[hg] at h;simp only at h
 cases ho:fV c d with
 |true=>rfl
 |false=>rw[ho] at h;simp at h
theorem Gp{S:Fs}{c:Cr}{now no m:Int}(h:S.gM c no≠0):S.cw c now no m=(S,S.gM c no):=by
 unfold Fs.cw Fs.gM at *
 cases hg:S.get no with
 |none=>rfl
 |some d=>
  simp only[hg] at h⊢
  cases ho:fV c d with
  |true=>rw[ho] at h;simp at h
  |false=>rfl
theorem Gl{S:Fs}{c:Cr}{now no u g:Int}(h:S.gM c no≠0):S.cD c now no u g=(S,S.gM c no):=by
 unfold Fs.cD Fs.gM at *
 cases hg:S.get no with
 |none=>rfl
 |some d=>
  simp only[hg] at h⊢
  cases ho:fV c d with
  |true=>rw[ho] at h;simp at h
  |false=>rfl
theorem Et{S:Fs}{c:Cr}{now no t:Int}(h:S.gM c no≠0):S.cA c now no t=(S,S.gM c no):=by
 unfold Fs.cA Fs.gM at *
 cases hg:S.get no with
 |none=>rfl
 |some d=>
  simp only[hg] at h⊢
  cases ho:fV c d with
  |true=>rw[ho] at h;simp at h
  |false=>rfl
theorem Fm(h:bm w pw R S){N:Nat}(hk:ax S N)(c:Cr)(now no mode:Int) :
  Calls Tryz.prog 89 #[.pointer (some ⟨pw,0,none⟩),.agg #[.int .i64 c.u,.int .i64 c.g],.int .i64 now,.int .i64 no,.int .i64 mode] w fun e w'=>
   e=.returned (.int .i64 (S.cw c now no mode).2)∧∃R',bm w' pw R' (S.cw c now no mode).1∧aR (R.F pw) (R'.F pw) w w':=by
 have HO:=Qf (fun w1 (av:Qi w w1)=>uT (h.ak av) hk c no);have HW:=Qf h;have mixed:Tryz.prog.follows .mixedOrders=true:=by kernel_rfl
 obtain⟨pc,-,pz⟩:=h.aZ.facts;clear h hk;go_enter Tryz.func89,Tryz.ntmps89;go_wp2_with fail;refine(HO.o _ (aq (Below.refl _ _) _)).mono ?_;clear HO;rintro e w1 ⟨⟨h0,rfl⟩|⟨h0,d,ea,el,ec,hg,rfl,he⟩,av⟩
 ·have aI:=au (aq (Qj w) _) av;have HB:=Qf aI;have HC:=Qf (Gp (now:=now) (m:=mode) h0);have hz:(S.gM c no==0)=false:=by simpa using h0
  generalize S.gM c no=pe at HC hz⊢;unfold An.v cS;clear h0 av aI pc;go_wp2_with fail;go_ret;rw[HC.o];exact⟨rfl,R,HW.o.ak (aq HB.o _),aR.ar (aq HB.o _)⟩
 ·have aI:=aq av (.cells #[.int .i64 d.no,.int .i64 d.dev,.int .i64 d.kind,.int .i64 d.mode,.int .i64 d.uid,.int .i64 d.gid,.int .i64 d.mtime,.int .i64 d.ctime,.int .i64 d.ao,.int .i64 d.up,.string d.data,.slice ea el ec] 149);have gp:=((aw.new w #[.int .i64 c.u,.int .i64 c.g] 64).ak av).old (.cells #[.int .i64 d.no,.int .i64 d.dev,.int .i64 d.kind,.int .i64 d.mode,.int .i64 d.uid,.int .i64 d.gid,.int .i64 d.mtime,.int .i64 d.ctime,.int .i64 d.ao,.int .i64 d.up,.string d.data,.slice ea el ec] 149);have gV:=aw.new w1 #[.int .i64 d.no,.int .i64 d.dev,.int .i64 d.kind,.int .i64 d.mode,.int .i64 d.uid,.int .i64 d.gid,.int .i64 d.mtime,.int .i64 d.ctime,.int .i64 d.ao,.int .i64 d.up,.string d.data,.slice ea el ec] 149;have hsz:=av.size;have Ee:=Qf (qW h0 hg);have ed:=Qf (fun w1 (av:Below (w.alloc (.cells #[.int .i64 c.u,.int .i64 c.g] 64)).heap.size (w.alloc (.cells #[.int .i64 c.u,.int .i64 c.g] 64)) w1)=>(HW.o.ak (au (aq (Below.refl _ _) _) av)).zJ {d with mode:=mode,ctime:=now} (he.ak av) (b:=d) (by rw[show({d with mode:=mode,ctime:=now}:An).no=d.no from rfl,cj hg];exact hg));have HG:=Qf hg;unfold An.v at ed;unfold An.v;clear h0 av he hg;go_upto_region 2 with fail;generalize w1.alloc _=X at aI gp gV⊢;obtain⟨dc,df,dz⟩:=gV.facts;obtain⟨cc,-,-⟩:=gp.facts;have Ms:=Qf gp;have yU:=Qf gV;have aW:=Qf aI;have lP:=Qf pc;have PQ:=Qf pz;clear gp gV aI pc pz;by_cases h1:mode<0
  ·skip
   have HE:=Qf (show S.cw c now no mode=(S,1) by unfold Fs.cw;rw[HG.o];simp only;rw[if_neg (by rw[Ee.o];decide),if_pos (.inl h1)]);go_wp2_with fail;go_ret;rw[HE.o];exact⟨rfl,R,HW.o.ak (au (aq (Below.refl _ _) _) aW.o),aR.ar (au (aq (Below.refl _ _) _) aW.o)⟩
  by_cases h2:1023<mode
  ·skip
   have HE:=Qf (show S.cw c now no mode=(S,1) by unfold Fs.cw;rw[HG.o];simp only;rw[if_neg (by rw[Ee.o];decide),if_pos (.inr (.inl h2))]);go_wp2_with fail;go_ret;rw[HE.o];exact⟨rfl,R,HW.o.ak (au (aq (Below.refl _ _) _) aW.o),aR.ar (au (aq (Below.refl _ _) _) aW.o)⟩
  by_cases h3:d.kind=3
  ·have rH:(d.kind==3)=true:=by simpa using h3
   have HE:=Qf (show S.cw c now no mode=(S,1) by unfold Fs.cw;rw[HG.o];simp only;rw[if_neg (by rw[Ee.o];decide),if_pos (.inr (.inr h3))]);clear h3;go_wp2_with fail;go_ret;rw[HE.o];exact⟨rfl,R,HW.o.ak (au (aq (Below.refl _ _) _) aW.o),aR.ar (au (aq (Below.refl _ _) _) aW.o)⟩
  have rH:(d.kind==3)=false:=by simpa using h3
  have HE:=Qf (show S.cw c now no mode=(S.set {d with mode:=mode,ctime:=now},0) by unfold Fs.cw;rw[HG.o];simp only;rw[if_neg (by rw[Ee.o];decide),if_neg (by omega)]);go_wp2_with fail;have pF:=((yU.o.set 3 (.int .i64 mode)).set 7 (.int .i64 now));have dX:Below (w.alloc (.cells #[.int .i64 c.u,.int .i64 c.g] 64)).heap.size (w.alloc (.cells #[.int .i64 c.u,.int .i64 c.g] 64)) ((X.setCell ⟨w1.heap.size,3,none⟩ (.int .i64 mode)).setCell ⟨w1.heap.size,7,none⟩ (.int .i64 now)):=((aW.o.setCell hsz _).setCell hsz _);generalize ((X.setCell ⟨w1.heap.size,3,none⟩ (.int .i64 mode)).setCell ⟨w1.heap.size,7,none⟩ (.int .i64 now))=Y at pF dX⊢;obtain⟨q0,q1,q2,q3,q4,q5,q6,q7,q8,q9,q10,q11⟩:=aw.fB (x0:=.int .i64 d.no) pF;have pc0:Y.cell? ⟨pw,0,none⟩=some (.pointer (some ⟨R.pt,0,none⟩)):=((au (aq (Qj w) (.cells #[.int .i64 c.u,.int .i64 c.g] 64)) dX).cell (p:=⟨pw,0,none⟩) PQ.o).trans (lP.o 0);have HS:=Qf (ed.o _ dX.drew);have HY:=Qf dX;clear pF dX dc df dz
  try clear cc
  refine aG 5 mixed (by kernel_rfl) eX ?_;simp only[List.take_succ_cons,List.take_zero,List.drop_succ_cons,List.drop_zero]
  repeat still_step
  refine wpStill_nil ?_;go_wp2_with fail;refine HS.o.mono ?_;rintro e w5 ⟨rfl,R',eh,dq,-,-⟩;have HR:=Qf (ag eh dq);clear eh dq;go_wp2_with fail;go_ret;rw[HE.o];exact⟨rfl,R',HR.o.1,(aR.ar (au (aq (Below.refl _ _) _) HY.o.drew)).trans HR.o.2⟩
theorem C1(h:bm w pw R S){N:Nat}(hk:ax S N)(c:Cr)(now no u g:Int) :
  Calls Tryz.prog 88 #[.pointer (some ⟨pw,0,none⟩),.agg #[.int .i64 c.u,.int .i64 c.g],.int .i64 now,.int .i64 no,.int .i64 u,.int .i64 g] w fun e w'=>
   e=.returned (.int .i64 (S.cD c now no u g).2)∧∃R',bm w' pw R' (S.cD c now no u g).1∧aR (R.F pw) (R'.F pw) w w':=by
 have HO:=Qf (fun w1 (av:Qi w w1)=>uT (h.ak av) hk c no);have HW:=Qf h;have mixed:Tryz.prog.follows .mixedOrders=true:=by kernel_rfl
 obtain⟨pc,-,pz⟩:=h.aZ.facts;clear h hk;go_enter Tryz.func88,Tryz.ntmps88;go_wp2_with fail;refine(HO.o _ (aq (Below.refl _ _) _)).mono ?_;clear HO;rintro e w1 ⟨⟨h0,rfl⟩|⟨h0,d,ea,el,ec,hg,rfl,he⟩,av⟩
 ·have aI:=au (aq (Qj w) _) av;have HB:=Qf aI;have HC:=Qf (Gl (now:=now) (u:=u) (g:=g) h0);have hz:(S.gM c no==0)=false:=by simpa using h0
  generalize S.gM c no=pe at HC hz⊢;unfold An.v cS;clear h0 av aI pc;go_wp2_with fail;go_ret;rw[HC.o];exact⟨rfl,R,HW.o.ak (aq HB.o _),aR.ar (aq HB.o _)⟩
 ·have aI:=aq av (.cells #[.int .i64 d.no,.int .i64 d.dev,.int .i64 d.kind,.int .i64 d.mode,.int .i64 d.uid,.int .i64 d.gid,.int .i64 d.mtime,.int .i64 d.ctime,.int .i64 d.ao,.int .i64 d.up,.string d.data,.slice ea el ec] 149);have gp:=((aw.new w #[.int .i64 c.u,.int .i64 c.g] 64).ak av).old (.cells #[.int .i64 d.no,.int .i64 d.dev,.int .i64 d.kind,.int .i64 d.mode,.int .i64 d.uid,.int .i64 d.gid,.int .i64 d.mtime,.int .i64 d.ctime,.int .i64 d.ao,.int .i64 d.up,.string d.data,.slice ea el ec] 149);have gV:=aw.new w1 #[.int .i64 d.no,.int .i64 d.dev,.int .i64 d.kind,.int .i64 d.mode,.int .i64 d.uid,.int .i64 d.gid,.int .i64 d.mtime,.int .i64 d.ctime,.int .i64 d.ao,.int .i64 d.up,.string d.data,.slice ea el ec] 149;have hsz:=av.size;have Ee:=Qf (qW h0 hg);have ed:=Qf (fun w1 (av:Below (w.alloc (.cells #[.int .i64 c.u,.int .i64 c.g] 64)).heap.size (w.alloc (.cells #[.int .i64 c.u,.int .i64 c.g] 64)) w1)=>(HW.o.ak (au (aq (Below.refl _ _) _) av)).zJ {d with uid:=u,gid:=g,ctime:=now} (he.ak av) (b:=d) (by rw[show({d with uid:=u,gid:=g,ctime:=now}:An).no=d.no from rfl,cj hg];exact hg));have HG:=Qf hg;unfold An.v at ed;unfold An.v;clear h0 av he hg;go_upto_region 2 with fail;generalize w1.alloc _=X at aI gp gV⊢;obtain⟨dc,df,dz⟩:=gV.facts;obtain⟨cc,-,-⟩:=gp.facts;have Ms:=Qf gp;have yU:=Qf gV;have aW:=Qf aI;have lP:=Qf pc;have PQ:=Qf pz;clear gp gV aI pc pz;by_cases h1:c.u≠0
  ·have oC:(c.u != 0)=true:=by simpa using h1
   have HE:=Qf (show S.cD c now no u g=(S,4) by unfold Fs.cD;rw[HG.o];simp only;rw[if_neg (by rw[Ee.o];decide),if_pos h1]);clear h1;go_wp2_with fail;go_ret;rw[HE.o];exact⟨rfl,R,HW.o.ak (au (aq (Below.refl _ _) _) aW.o),aR.ar (au (aq (Below.refl _ _) _) aW.o)⟩
  have h1:c.u=0:=Decidable.not_not.1 h1;have oC:(c.u != 0)=false:=by simpa using h1
  have HF:=Qf (fun w=>CX u g w);by_cases h2:GV u g=false
  ·have kq:=h2;have HE:=Qf (show S.cD c now no u g=(S,1) by unfold Fs.cD;rw[HG.o];simp only;rw[if_neg (by rw[Ee.o];decide),if_neg (by simp[h1]),if_pos kq]);rw[kq] at HF;clear h1 h2 kq;go_wp2_with fail;refine(HF.o _).mono ?_;rintro e w5 ⟨rfl,bU⟩;have l8:=Qf (aW.o.trans (bU.mono aW.o.size));clear bU;go_wp2_with fail;go_ret;rw[HE.o];exact⟨rfl,R,HW.o.ak (au (aq (Below.refl _ _) _) l8.o),aR.ar (au (aq (Below.refl _ _) _) l8.o)⟩
  have HE:=Qf (show S.cD c now no u g=(S.set {d with uid:=u,gid:=g,ctime:=now},0) by unfold Fs.cD;rw[HG.o];simp only;rw[if_neg (by rw[Ee.o];decide),if_neg (by simp[h1]),if_neg h2]);have h2:GV u g=true:=by simpa using h2
  rw[h2] at HF;clear h1 h2;go_wp2_with fail;refine(HF.o _).mono ?_;rintro e w5 ⟨rfl,bU⟩;have l8:=Qf (aW.o.trans (bU.mono aW.o.size));have HD5:=Qf (yU.o.ak bU);have hD5:=HD5.o;clear dc df dz cc bU;obtain⟨dc,df,dz⟩:=hD5.facts;clear hD5;go_wp2_with fail;have pF:=(((HD5.o.set 4 (.int .i64 u)).set 5 (.int .i64 g)).set 7 (.int .i64 now));have dX:Below (w.alloc (.cells #[.int .i64 c.u,.int .i64 c.g] 64)).heap.size (w.alloc (.cells #[.int .i64 c.u,.int .i64 c.g] 64)) (((w5.setCell ⟨w1.heap.size,4,none⟩ (.int .i64 u)).setCell ⟨w1.heap.size,5,none⟩ (.int .i64 g)).setCell ⟨w1.heap.size,7,none⟩ (.int .i64 now)):=(((l8.o.setCell hsz _).setCell hsz _).setCell hsz _);generalize (((w5.setCell ⟨w1.heap.size,4,none⟩ (.int .i64 u)).setCell ⟨w1.heap.size,5,none⟩ (.int .i64 g)).setCell ⟨w1.heap.size,7,none⟩ (.int .i64 now))=Y at pF dX⊢;obtain⟨q0,q1,q2,q3,q4,q5,q6,q7,q8,q9,q10,q11⟩:=aw.fB (x0:=.int .i64 d.no) pF;have pc0:Y.cell? ⟨pw,0,none⟩=some (.pointer (some ⟨R.pt,0,none⟩)):=((au (aq (Qj w) (.cells #[.int .i64 c.u,.int .i64 c.g] 64)) dX).cell (p:=⟨pw,0,none⟩) PQ.o).trans (lP.o 0);have HS:=Qf (ed.o _ dX.drew);have HY:=Qf dX;clear pF dX dc df dz
  try clear cc
  refine aG 5 mixed (by kernel_rfl) eX ?_;simp only[List.take_succ_cons,List.take_zero,List.drop_succ_cons,List.drop_zero]
  repeat still_step
  refine wpStill_nil ?_;go_wp2_with fail;refine HS.o.mono ?_;rintro e w5 ⟨rfl,R',eh,dq,-,-⟩;have HR:=Qf (ag eh dq);clear eh dq;go_wp2_with fail;go_ret;rw[HE.o];exact⟨rfl,R',HR.o.1,(aR.ar (au (aq (Below.refl _ _) _) HY.o.drew)).trans HR.o.2⟩
theorem EE(h:bm w pw R S){N:Nat}(hk:ax S N)(c:Cr)(now no t:Int) :
  Calls Tryz.prog 90 #[.pointer (some ⟨pw,0,none⟩),.agg #[.int .i64 c.u,.int .i64 c.g],.int .i64 now,.int .i64 no,.int .i64 t] w fun e w'=>
   e=.returned (.int .i64 (S.cA c now no t).2)∧∃R',bm w' pw R' (S.cA c now no t).1∧aR (R.F pw) (R'.F pw) w w':=by
 have HO:=Qf (fun w1 (av:Qi w w1)=>uT (h.ak av) hk c no);have HW:=Qf h;have mixed:Tryz.prog.follows .mixedOrders=true:=by kernel_rfl
 obtain⟨pc,-,pz⟩:=h.aZ.facts;clear h hk;go_enter Tryz.func90,Tryz.ntmps90;go_wp2_with fail;refine(HO.o _ (aq (Below.refl _ _) _)).mono ?_;clear HO;rintro e w1 ⟨⟨h0,rfl⟩|⟨h0,d,ea,el,ec,hg,rfl,he⟩,av⟩
 ·have aI:=au (aq (Qj w) _) av;have HB:=Qf aI;have HC:=Qf (Et (now:=now) (t:=t) h0);have hz:(S.gM c no==0)=false:=by simpa using h0
  generalize S.gM c no=pe at HC hz⊢;unfold An.v cS;clear h0 av aI pc;go_wp2_with fail;go_ret;rw[HC.o];exact⟨rfl,R,HW.o.ak (aq HB.o _),aR.ar (aq HB.o _)⟩
 ·have aI:=aq av (.cells #[.int .i64 d.no,.int .i64 d.dev,.int .i64 d.kind,.int .i64 d.mode,.int .i64 d.uid,.int .i64 d.gid,.int .i64 d.mtime,.int .i64 d.ctime,.int .i64 d.ao,.int .i64 d.up,.string d.data,.slice ea el ec] 149);have gp:=((aw.new w #[.int .i64 c.u,.int .i64 c.g] 64).ak av).old (.cells #[.int .i64 d.no,.int .i64 d.dev,.int .i64 d.kind,.int .i64 d.mode,.int .i64 d.uid,.int .i64 d.gid,.int .i64 d.mtime,.int .i64 d.ctime,.int .i64 d.ao,.int .i64 d.up,.string d.data,.slice ea el ec] 149);have gV:=aw.new w1 #[.int .i64 d.no,.int .i64 d.dev,.int .i64 d.kind,.int .i64 d.mode,.int .i64 d.uid,.int .i64 d.gid,.int .i64 d.mtime,.int .i64 d.ctime,.int .i64 d.ao,.int .i64 d.up,.string d.data,.slice ea el ec] 149;have hsz:=av.size;have Ee:=Qf (qW h0 hg);have ed:=Qf (fun w1 (av:Below (w.alloc (.cells #[.int .i64 c.u,.int .i64 c.g] 64)).heap.size (w.alloc (.cells #[.int .i64 c.u,.int .i64 c.g] 64)) w1)=>(HW.o.ak (au (aq (Below.refl _ _) _) av)).zJ {d with mtime:=t,ctime:=now} (he.ak av) (b:=d) (by rw[show({d with mtime:=t,ctime:=now}:An).no=d.no from rfl,cj hg];exact hg));have HG:=Qf hg;unfold An.v at ed;unfold An.v;clear h0 av he hg;go_upto_region 2 with fail;generalize w1.alloc _=X at aI gp gV⊢;obtain⟨dc,df,dz⟩:=gV.facts;obtain⟨cc,-,-⟩:=gp.facts;have Ms:=Qf gp;have yU:=Qf gV;have aW:=Qf aI;have lP:=Qf pc;have PQ:=Qf pz;clear gp gV aI pc pz;by_cases h1:t<0
  ·skip
   have HE:=Qf (show S.cA c now no t=(S,1) by unfold Fs.cA;rw[HG.o];simp only;rw[if_neg (by rw[Ee.o];decide),if_pos (.inl h1)]);go_wp2_with fail;go_ret;rw[HE.o];exact⟨rfl,R,HW.o.ak (au (aq (Below.refl _ _) _) aW.o),aR.ar (au (aq (Below.refl _ _) _) aW.o)⟩
  by_cases h2:253402300799<t
  ·skip
   have HE:=Qf (show S.cA c now no t=(S,1) by unfold Fs.cA;rw[HG.o];simp only;rw[if_neg (by rw[Ee.o];decide),if_pos (.inr h2)]);go_wp2_with fail;go_ret;rw[HE.o];exact⟨rfl,R,HW.o.ak (au (aq (Below.refl _ _) _) aW.o),aR.ar (au (aq (Below.refl _ _) _) aW.o)⟩
  have HE:=Qf (show S.cA c now no t=(S.set {d with mtime:=t,ctime:=now},0) by unfold Fs.cA;rw[HG.o];simp only;rw[if_neg (by rw[Ee.o];decide),if_neg (by omega)]);go_wp2_with fail;have pF:=((yU.o.set 6 (.int .i64 t)).set 7 (.int .i64 now));have dX:Below (w.alloc (.cells #[.int .i64 c.u,.int .i64 c.g] 64)).heap.size (w.alloc (.cells #[.int .i64 c.u,.int .i64 c.g] 64)) ((X.setCell ⟨w1.heap.size,6,none⟩ (.int .i64 t)).setCell ⟨w1.heap.size,7,none⟩ (.int .i64 now)):=((aW.o.setCell hsz _).setCell hsz _);generalize ((X.setCell ⟨w1.heap.size,6,none⟩ (.int .i64 t)).setCell ⟨w1.heap.size,7,none⟩ (.int .i64 now))=Y at pF dX⊢;obtain⟨q0,q1,q2,q3,q4,q5,q6,q7,q8,q9,q10,q11⟩:=aw.fB (x0:=.int .i64 d.no) pF;have pc0:Y.cell? ⟨pw,0,none⟩=some (.pointer (some ⟨R.pt,0,none⟩)):=((au (aq (Qj w) (.cells #[.int .i64 c.u,.int .i64 c.g] 64)) dX).cell (p:=⟨pw,0,none⟩) PQ.o).trans (lP.o 0);have HS:=Qf (ed.o _ dX.drew);have HY:=Qf dX;clear pF dX dc df dz
  try clear cc
  refine aG 5 mixed (by kernel_rfl) eX ?_;simp only[List.take_succ_cons,List.take_zero,List.drop_succ_cons,List.drop_zero]
  repeat still_step
  refine wpStill_nil ?_;go_wp2_with fail;refine HS.o.mono ?_;rintro e w5 ⟨rfl,R',eh,dq,-,-⟩;have HR:=Qf (ag eh dq);clear eh dq;go_wp2_with fail;go_ret;rw[HE.o];exact⟨rfl,R',HR.o.1,(aR.ar (au (aq (Below.refl _ _) _) HY.o.drew)).trans HR.o.2⟩
end
end
section
open Go.RowKit
section
variable{w w':World}{pw:Nat}{R:Rp}{S:Fs}
theorem Jy(h:bm w pw R S){N:Nat}(hk:ax S N)(hN:N≤999999)(c:Cr)(now dir:Int)(s:ByteArray)(hs:s.size≤9223372036854775807)(mode:Int) :
  Calls Tryz.prog 63 #[.pointer (some ⟨pw,0,none⟩),.agg #[.int .i64 c.u,.int .i64 c.g],.int .i64 now,.int .i64 dir,.string s,.int .i64 mode] w fun e w'=>
   e=.returned (.tuple #[.int .i64 (S.aO c now dir s mode).2.1,.int .i64 (S.aO c now dir s mode).2.2])∧∃R',bm w' pw R' (S.aO c now dir s mode).1∧aR (R.F pw) (R'.F pw) w w':=by
 have HP:=Qf (fun w1 (av:Qi w w1)=>uP (h.ak av) hk hN c now dir s hs {cS with kind:=1,mode:=mode,up:=dir} rfl (by show(0:Nat)≤_;omega));unfold An.v cS at HP;have HW:=Qf h;clear h hk;by_cases h1:mode<0
 ·have HE:=Qf (show S.aO c now dir s mode=(S,0,1) by unfold Fs.aO;rw[if_pos (.inl h1)]);go_enter Tryz.func63,Tryz.ntmps63;go_wp2_with fail;go_ret2;rw[HE.o];exact⟨rfl,R,HW.o.ak (by go_grown),aR.ar (by go_grown)⟩
 ·skip
  by_cases h2:1023<mode
  ·have HE:=Qf (show S.aO c now dir s mode=(S,0,1) by unfold Fs.aO;rw[if_pos (.inr h2)]);go_enter Tryz.func63,Tryz.ntmps63;go_wp2_with fail;go_ret2;rw[HE.o];exact⟨rfl,R,HW.o.ak (by go_grown),aR.ar (by go_grown)⟩
  ·skip
   have HE:=Qf (show S.aO c now dir s mode=S.cC c now dir s {cS with kind:=1,mode:=mode,up:=dir} by unfold Fs.aO;rw[if_neg (by omega)]);unfold cS at HE;go_enter Tryz.func63,Tryz.ntmps63;go_wp2_with fail;refine(HP.o _ (by first|exact Below.refl _ _|exact aq (Below.refl _ _) _|exact aq (aq (Below.refl _ _) _) _)).mono ?_;rintro e w1 ⟨rfl,R1,eh,pZ⟩;have oP:=Qf (ag eh pZ);clear eh pZ HP;go_wp2_with fail;go_ret2;rw[HE.o];exact⟨rfl,R1,oP.o.1,(aR.ar (by go_grown)).trans oP.o.2⟩
theorem Ga(h:bm w pw R S){N:Nat}(hk:ax S N)(hN:N≤999999)(c:Cr)(now dir:Int)(s:ByteArray)(hs:s.size≤9223372036854775807)(mode:Int)(data:ByteArray)(hd:data.size≤9223372036854775807) :
  Calls Tryz.prog 36 #[.pointer (some ⟨pw,0,none⟩),.agg #[.int .i64 c.u,.int .i64 c.g],.int .i64 now,.int .i64 dir,.string s,.int .i64 mode,.string data] w fun e w'=>
   e=.returned (.tuple #[.int .i64 (S.file c now dir s mode data).2.1,.int .i64 (S.file c now dir s mode data).2.2])∧∃R',bm w' pw R' (S.file c now dir s mode data).1∧aR (R.F pw) (R'.F pw) w w':=by
 have HP:=Qf (fun w1 (av:Qi w w1)=>uP (h.ak av) hk hN c now dir s hs {cS with kind:=2,mode:=mode,data:=data} rfl (hd));unfold An.v cS at HP;have HW:=Qf h;clear h hk;by_cases h1:mode<0
 ·have HE:=Qf (show S.file c now dir s mode data=(S,0,1) by unfold Fs.file;rw[if_pos (.inl h1)]);go_enter Tryz.func36,Tryz.ntmps36;go_wp2_with fail;go_ret2;rw[HE.o];exact⟨rfl,R,HW.o.ak (by go_grown),aR.ar (by go_grown)⟩
 ·skip
  by_cases h2:1023<mode
  ·have HE:=Qf (show S.file c now dir s mode data=(S,0,1) by unfold Fs.file;rw[if_pos (.inr h2)]);go_enter Tryz.func36,Tryz.ntmps36;go_wp2_with fail;go_ret2;rw[HE.o];exact⟨rfl,R,HW.o.ak (by go_grown),aR.ar (by go_grown)⟩
  ·skip
   by_cases h3:1048576<data.size
   ·have HE:=Qf (show S.file c now dir s mode data=(S,0,3) by unfold Fs.file;rw[if_neg (by omega),if_pos h3]);have h3n:(1048576:Int)<(data.size:Int):=by omega
    go_enter Tryz.func36,Tryz.ntmps36;go_wp2_with fail;go_ret2;rw[HE.o];exact⟨rfl,R,HW.o.ak (by go_grown),aR.ar (by go_grown)⟩
   ·skip
    have h3n:¬(1048576:Int)<(data.size:Int):=by omega
    have HE:=Qf (show S.file c now dir s mode data=S.cC c now dir s {cS with kind:=2,mode:=mode,data:=data} by unfold Fs.file;rw[if_neg (by omega),if_neg h3]);unfold cS at HE;go_enter Tryz.func36,Tryz.ntmps36;go_wp2_with fail;refine(HP.o _ (by first|exact Below.refl _ _|exact aq (Below.refl _ _) _|exact aq (aq (Below.refl _ _) _) _)).mono ?_;rintro e w1 ⟨rfl,R1,eh,pZ⟩;have oP:=Qf (ag eh pZ);clear eh pZ HP;go_wp2_with fail;go_ret2;rw[HE.o];exact⟨rfl,R1,oP.o.1,(aR.ar (by go_grown)).trans oP.o.2⟩
theorem Ib(h:bm w pw R S){N:Nat}(hk:ax S N)(hN:N≤999999)(c:Cr)(now dir:Int)(s:ByteArray)(hs:s.size≤9223372036854775807)(text:ByteArray)(hd:text.size≤9223372036854775807) :
  Calls Tryz.prog 125 #[.pointer (some ⟨pw,0,none⟩),.agg #[.int .i64 c.u,.int .i64 c.g],.int .i64 now,.int .i64 dir,.string s,.string text] w fun e w'=>
   e=.returned (.tuple #[.int .i64 (S.sym c now dir s text).2.1,.int .i64 (S.sym c now dir s text).2.2])∧∃R',bm w' pw R' (S.sym c now dir s text).1∧aR (R.F pw) (R'.F pw) w w':=by
 have HP:=Qf (fun w1 (av:Qi w w1)=>uP (h.ak av) hk hN c now dir s hs {cS with kind:=3,mode:=511,data:=text} rfl (hd));unfold An.v cS at HP;have HW:=Qf h;clear h hk;have H0:=Qf (kj text);have hb:hasB text 0=decide ((0:UInt8)∈text.data.toList):=rfl;have bP:=Qf hb.symm;clear hb;generalize hasB text 0=b0 at H0 bP;by_cases h1:text.toList=[]
 ·have HE:=Qf (show S.sym c now dir s text=(S,0,1) by unfold Fs.sym;rw[if_pos (.inl (by rw[←bG];exact h1))]);go_enter Tryz.func125,Tryz.ntmps125;go_wp2_with (go_at_call 119;((with_reducible refine(H0.o _).mono ?_);rintro e w1 ⟨rfl,rfl⟩));go_ret2;rw[HE.o];exact⟨rfl,R,HW.o.ak (by go_grown),aR.ar (by go_grown)⟩
 ·skip
  have oC:text.toList.isEmpty=false:=by simpa using h1
  by_cases h2:b0=true
  ·have HE:=Qf (show S.sym c now dir s text=(S,0,1) by unfold Fs.sym;rw[if_pos (.inr (of_decide_eq_true (bP.o.trans h2)))]);subst h2;go_enter Tryz.func125,Tryz.ntmps125;go_wp2_with (go_at_call 119;((with_reducible refine(H0.o _).mono ?_);rintro e w1 ⟨rfl,rfl⟩));go_ret2;rw[HE.o];exact⟨rfl,R,HW.o.ak (by go_grown),aR.ar (by go_grown)⟩
  ·skip
   have kq:b0=false:=by simpa using h2
   subst kq;by_cases h3:4096<text.size
   ·have HE:=Qf (show S.sym c now dir s text=(S,0,13) by unfold Fs.sym;rw[if_neg (by rintro(h|h);exact h1 (by rw[bG];exact h);exact absurd (bP.o.symm.trans (decide_eq_true h)) (by decide)),if_pos h3]);have h3n:(4096:Int)<(text.size:Int):=by omega
    go_enter Tryz.func125,Tryz.ntmps125;go_wp2_with (go_at_call 119;((with_reducible refine(H0.o _).mono ?_);rintro e w1 ⟨rfl,rfl⟩));go_ret2;rw[HE.o];exact⟨rfl,R,HW.o.ak (by go_grown),aR.ar (by go_grown)⟩
   ·skip
    have h3n:¬(4096:Int)<(text.size:Int):=by omega
    have HE:=Qf (show S.sym c now dir s text=S.cC c now dir s {cS with kind:=3,mode:=511,data:=text} by unfold Fs.sym;rw[if_neg (by rintro(h|h);exact h1 (by rw[bG];exact h);exact absurd (bP.o.symm.trans (decide_eq_true h)) (by decide)),if_neg h3]);unfold cS at HE;go_enter Tryz.func125,Tryz.ntmps125;go_wp2_with (go_at_call 119;((with_reducible refine(H0.o _).mono ?_);rintro e w1 ⟨rfl,rfl⟩));refine(HP.o _ (by first|exact Below.refl _ _|exact aq (Below.refl _ _) _|exact aq (aq (Below.refl _ _) _) _)).mono ?_;rintro e w1 ⟨rfl,R1,eh,pZ⟩;have oP:=Qf (ag eh pZ);clear eh pZ HP;go_wp2_with fail;go_ret2;rw[HE.o];exact⟨rfl,R1,oP.o.1,(aR.ar (by go_grown)).trans oP.o.2⟩
end
end
end Go.Proofs.YtabbjaomlmnnhaaGreat
