import Derived.Deep.CutBlock
import Derived.Deep.DeepCutAuto
import Derived.RegionTactic
import Derived.BigRegion
import Derived.Test.YtabbjaomlmnnhaaGreatCO4
set_option linter.unusedVariables false
set_option linter.unusedSimpArgs false
set_option maxRecDepth 100000
set_option maxHeartbeats 16000000
namespace Go.Proofs.YtabbjaomlmnnhaaGreat
open Go.Value renaming int→UE,string→UF,slice→UG,pointer→UH,agg→UJ,tuple→UK
open Go.IntKind renaming i64→UL
section
open Go.RowKit
section
variable{w w':World}{pw:Nat}{R:Rp}{S:Fs}
theorem QB(h:bB w pw R S){k:Int}{a:An}(hg:S.get k=some a):∃g∈R.G,g.a=a∧fZ (R.G.map Gn.e) k=some g.nd∧aA w g.ea g.el g.ec a.au:=by
 rw[Of h] at hg
 cases hf:R.G.find? (fun g=>g.a.no==k) with
 |none=>rw[hf] at hg;cases hg
 |some g=>
  rw[hf] at hg;simp only[Option.map_some,Option.some.injEq] at hg;have hm:=List.mem_of_find?_eq_some hf;refine⟨g,hm,hg,?_,?_⟩
  ·rw[AX,hf];rfl
  ·rw[←hg];exact h.au g hm
theorem G_no(h:bB w pw R S){k:Int}(hg:S.get k=none):fZ (R.G.map Gn.e) k=none:=by
 rw[Of h] at hg;rw[AX]
 cases hf:R.G.find? (fun g=>g.a.no==k) with
 |none=>rfl
 |some g=>rw[hf] at hg;cases hg
theorem oD(h:bB w pw R S){k:Int}{a:An}(hg:S.get k=some a):∃ea el ec,aA w ea el ec a.au∧
  Calls Tryz.prog 69 #[UH (some ⟨R.pt,0,none⟩),UE UL k] w fun e w'=>e=.returned (UK #[a.v ea el ec,.bool true])∧UA w w':=by
 obtain⟨g,-,rfl,hf,he⟩:=QB h hg;exact⟨g.ea,g.el,g.ec,he,rR g.nd k w R.pt R.pm S.last _ R.eo h.tab hf⟩
theorem gD(h:bB w pw R S){k:Int}(hg:S.get k=none) :
  Calls Tryz.prog 69 #[UH (some ⟨R.pt,0,none⟩),UE UL k] w fun e w'=>e=.returned (UK #[dD.v none 0 0,.bool false])∧UA w w':=
 JX k w R.pt R.pm S.last _ R.eo h.tab (G_no h hg)
theorem DW(S:Fs)(k:Int)(hk:0<k)(i:Nat)(hi:i<S.ds.length)(h1:∀j (hj:j<S.ds.length),j<i→S.ds[j].aB≠k)(h2:S.ds[i].aB=k):S.aB k=S.ds[i].root:=by
 unfold Fs.aB;rw[if_pos hk];have:S.ds.find? (fun d=>d.aB==k)=some S.ds[i]:=by
  rw[List.find?_eq_some_iff_getElem];exact⟨by simpa using h2,i,hi,rfl,fun j hj=>by simpa using h1 j (by omega) hj⟩
 rw[this]
theorem vW(S:Fs)(k:Int)(h1:∀j (hj:j<S.ds.length),S.ds[j].aB≠k):S.aB k=k:=by
 unfold Fs.aB
 split
 ·have:S.ds.find? (fun d=>d.aB==k)=none:=by
   rw[List.find?_eq_none];intro d hd;obtain⟨j,hj,rfl⟩:=List.mem_iff_getElem.1 hd;simpa using h1 j hj
  rw[this]
 ·rfl
theorem jB(h:bB w pw R S)(hd:0<S.ds.length)(no:Int) :
  Calls Tryz.prog 67 #[UH (some ⟨pw,0,none⟩),UE UL no] w fun e w'=>e=.returned (UE UL (S.aB no))∧UA w w':=by
 have HN:=Ux (iy h hd);obtain⟨g,cap,hv,hle,zd,hg,hc,-,-⟩:=h.lS hd;obtain⟨pc,-,-⟩:=h.bD.facts;rw[hv] at pc;have HC:=Ux hc;clear h hv hc;by_cases h0:0<no
 ·have qC:=Ux (DW S no h0);have pM:=Ux (vW S no);obtain⟨n,hn⟩:∃n,S.ds.length=n:=⟨_,rfl⟩;have K9:=Ux hn;rw[hn] at pc hle hd;generalize S.aB no=out at qC pM⊢;clear hn;go_enter Tryz.func67,Tryz.ntmps67;go_wp2_with fail;refine HN.o.mono ?_;rintro e w1 ⟨rfl,rfl⟩;go_wp2_with fail
  go_loopw [19] (fun i wr=>∃k:Nat,k≤n∧i=UE UL k∧(∀j (hj:j<S.ds.length),j<k→S.ds[j].aB≠no)∧UA w wr) (fun i _=>n-(intOf i).toNat)
  case atStart=>exact⟨0,Nat.zero_le _,rfl,fun j _ h=>absurd h (Nat.not_lt_zero _),Below.refl _ _⟩
  case round=>
   obtain⟨k,hk,rfl,hno,hB⟩:=hrel;have kO:=Ux hno;have HB:=Ux hB;clear hno hB;by_cases hlt:k<n
   ·have hkl:k<S.ds.length:=by rw[K9.o];exact hlt
    obtain⟨c0,c1,c2,c3,c4,c5⟩:=HC.o k hkl;rw[←HB.o.cell (p:=⟨g,k*6,none⟩) hg] at c0;rw[←HB.o.cell (p:=⟨g,k*6+1,none⟩) hg] at c1;rw[←HB.o.cell (p:=⟨g,k*6+2,none⟩) hg] at c2;rw[←HB.o.cell (p:=⟨g,k*6+3,none⟩) hg] at c3;rw[←HB.o.cell (p:=⟨g,k*6+4,none⟩) hg] at c4;rw[←HB.o.cell (p:=⟨g,k*6+5,none⟩) hg] at c5;by_cases hov:S.ds[k].aB=no
    ·have HE:=Ux (qC.o k hkl kO.o hov);have hq:(S.ds[k].aB==no)=true:=by simpa using hov
     clear hov;generalize S.ds[k]=v at c0 c1 c2 c3 c4 c5 hq HE;go_wp2_with fail;go_ret;exact⟨by rw[HE.o];rfl,ao HB.o _⟩
    ·have hq:(S.ds[k].aB==no)=false:=by simpa using hov
     have DH:=Ux (show∀j (hj:j<S.ds.length),j<k+1→S.ds[j].aB≠no from fun j hj hjk=>by
      by_cases e:j=k
      ·subst e;exact hov
      ·exact kO.o j hj (by omega))
     clear hov;generalize S.ds[k]=v at c0 c1 c2 c3 c4 c5 hq;go_wp2_with fail;go_roundw
     case rel=>exact⟨k+1,by omega,by go_num,DH.o,ao HB.o _⟩
     case measure=>simp[intOf];omega
   ·obtain rfl:k=n:=by omega
    have HE:=Ux (pM.o (fun j hj=>kO.o j hj (by rw[←K9.o];exact hj)));go_wp2_with fail;go_ret;exact⟨by rw[HE.o];rfl,HB.o⟩
 ·have hO:S.aB no=no:=by unfold Fs.aB;rw[if_neg h0]
  rw[hO];generalize S.ds.length=n at pc hle hd;go_enter Tryz.func67,Tryz.ntmps67;go_wp2_with fail;refine HN.o.mono ?_;rintro e w1 ⟨rfl,rfl⟩;go_wp2_with fail;go_ret;exact⟨rfl,Below.refl _ _⟩
theorem nI(h:bB w pw R S){N:Nat}(hk:ay S N)(no:Int) :
  Calls Tryz.prog 141 #[UH (some ⟨pw,0,none⟩),UE UL no] w fun e w'=>e=.returned (UE UL (S.bl no))∧UA w w':=by
 have HW:=Ux h;have HK:=Ux hk;have HN:=Ux (iy h hk.d1);obtain⟨pc,-,-⟩:=h.bD.facts;have mixed:Tryz.prog.follows .mixedOrders=true:=by kernel_rfl
 cases hg:S.get no with
 |none=>
  have HA:=Ux (show S.bl no=0 by unfold Fs.bl;rw[hg]);have HG:=Ux (gD h hg);unfold An.v dD at HG;clear h hk hg;go_enter Tryz.func141,Tryz.ntmps141;go_wp2_with fail;refine HN.o.mono ?_;rintro e w1 ⟨rfl,rfl⟩;go_wp2_with fail;refine HG.o.mono ?_;rintro e w1 ⟨rfl,av⟩;go_wp2_with fail;go_ret;exact⟨by rw[HA.o];rfl,ao av _⟩
 |some a=>
  obtain⟨hao,-,h1,-⟩:=hk.get hg;obtain⟨ea,el,ec,-,hgc⟩:=oD h hg;have HG:=Ux hgc;unfold An.v at HG;by_cases hkd:a.kind=1
  ·by_cases hr:S.root a.dev=no∧1<a.dev
   ·obtain⟨v,hv,hrv,-,-⟩:=jr hk hao.dev.1 hao.dev.2;obtain⟨g,cap,hdv,hle,zd,hgl,hc,-,-⟩:=h.lS hk.d1;rw[hdv] at pc;obtain⟨k,Pm⟩:∃k:Nat,a.dev=(k:Int)+1:=⟨(a.dev-1).toNat,by have:=hao.dev.1;omega⟩;have hkl:k<S.ds.length:=by have:=hao.dev.2;omega
    have hvk:S.ds[k]=v:=by
     unfold Fs.dev at hv;rw[if_pos (by omega),Pm,show((k:Int)+1-1).toNat=k by omega,List.getElem?_eq_getElem hkl] at hv;simpa using hv
    have cc:=(hc k hkl).c1;rw[hvk] at cc;have hrt:S.root a.dev=no:=hr.1;have HR:=Ux (fun w1 (av:UA w w1)=>fK (h.an av) hk.d1 a.dev);rw[hrt] at HR;have HA:=Ux (show S.bl no=(match S.get v.aB with|none=>0|some b=>b.up) by
     unfold Fs.bl;rw[hg];simp only;rw[if_neg (by simpa using hkd),if_pos hr,hv];rfl)
    have h3:1<a.dev:=hr.2;have hgd:=hao.dev.1;have hpz:=h.bD.lt;rw[Pm] at h3 HG HR;obtain⟨n,hn⟩:∃n,S.ds.length=n:=⟨_,rfl⟩;rw[hn] at pc hle;have hkn:k<n:=by omega
    have gv:(a.kind==1)=true:=by simpa using hkd
    have gM:(a.kind != 1)=false:=by simpa using hkd
    have HD:=Ux (fun w1 (av:UA w w1)=>ag (fun(hgv:S.get v.aB=none)=>gD (h.an av) hgv) (fun b (hgv:S.get v.aB=some b)=>oD (h.an av) hgv));clear h hk hg hao hgc hc hv hrv hr hrt hdv hvk hn Pm hgd hkl hkd;go_enter Tryz.func141,Tryz.ntmps141;go_wp2_with fail;refine HN.o.mono ?_;rintro e w1 ⟨rfl,rfl⟩;go_wp2_with fail;refine HG.o.mono ?_;rintro e w1 ⟨rfl,av⟩;have B1:=ax.new w1 #[UE UL a.no,UE UL ((k:Int)+1),UE UL a.kind,UE UL a.mode,UE UL a.uid,UE UL a.gid,UE UL a.mtime,UE UL a.ctime,UE UL a.ak,UE UL a.up,UF a.data,UG ea el ec] 149;have aY:=ao av (.cells #[UE UL a.no,UE UL ((k:Int)+1),UE UL a.kind,UE UL a.mode,UE UL a.uid,UE UL a.gid,UE UL a.mtime,UE UL a.ctime,UE UL a.ak,UE UL a.up,UF a.data,UG ea el ec] 149);have uU:=HR.o _ aY;go_wp2_with fail;refine uU.mono ?_;rintro e w2 ⟨rfl,rfl⟩;generalize w1.alloc _=W at B1 aY uU⊢;have Db:=av.size;generalize w1.heap.size=Bn at B1 Db⊢;obtain⟨bc,bf,bz⟩:=B1.facts;rw[←aY.cell (p:=⟨g,k*6+1,none⟩) hgl] at cc;have Ho:=Ux (aY.cell (p:=⟨pw,0,none⟩) hpz);have pc0:W.cell? ⟨pw,0,none⟩=_:=(aY.cell (p:=⟨pw,0,none⟩) hpz).trans (pc 0);have pc1:W.cell? ⟨pw,1,none⟩=_:=(aY.cell (p:=⟨pw,1,none⟩) hpz).trans (pc 1);go_wp2_with fail;have rK:IntKind.i64.wrap ((k:Int)+1-1)=(k:Int):=by rw[IntKind.wrap_i64];omega
    have xQ:IntKind.i64.wrap (k:Int)=(k:Int):=by rw[IntKind.wrap_i64];omega
    have cl:(k:Int)<(n:Int):=by omega
    have dM:(0:Int)≤(k:Int):=by omega
    refine aG 14 mixed (by kernel_rfl) eQ ?_;simp only[List.take_succ_cons,List.take_zero,List.drop_succ_cons,List.drop_zero]
    repeat still_step
    refine wpStill_nil ?_
    cases hgv:S.get v.aB with
    |none=>
     rw[hgv] at HA;have HC:=Ux (((HD.o W.drew aY.drew).1 hgv));unfold An.v dD at HC;clear hgv HD;go_wp2_with fail;refine HC.o.mono ?_;rintro e w2 ⟨rfl,cl⟩;obtain⟨bc3,bf3,bz3⟩:=(B1.drew.an cl).facts;have dM:=ar aY.drew cl;go_wp2_with fail;go_ret;exact⟨by rw[HA.o];rfl,by(repeat (refine Below.setCell ?_ Db _));exact dM⟩
    |some b=>
     rw[hgv] at HA;obtain⟨ea2,el2,ec2,-,SI⟩:=(HD.o W.drew aY.drew).2 b hgv;have HC:=Ux SI;unfold An.v at HC;clear hgv HD SI;go_wp2_with fail;refine HC.o.mono ?_;rintro e w2 ⟨rfl,cl⟩;obtain⟨bc3,bf3,bz3⟩:=(B1.drew.an cl).facts;have dM:=ar aY.drew cl;go_wp2_with fail;go_ret;exact⟨by rw[HA.o];rfl,by(repeat (refine Below.setCell ?_ Db _));exact dM⟩
   ·have HA:=Ux (show S.bl no=a.up by unfold Fs.bl;rw[hg];simp only;rw[if_neg (by simpa using hkd),if_neg hr]);have HR:=Ux (fun w1 (av:UA w w1)=>fK (h.an av) hk.d1 a.dev);have gv:(a.kind==1)=true:=by simpa using hkd
    have gM:(a.kind != 1)=false:=by simpa using hkd
    clear h hk hg hao hgc hkd;obtain⟨rt,hrt⟩:∃rt,S.root a.dev=rt:=⟨_,rfl⟩;rw[hrt] at HR hr;by_cases h2:rt=no
    ·have h3:¬1<a.dev:=fun h3=>hr ⟨h2,h3⟩;have h4:(rt==no)=true:=by simpa using h2
     clear hr h2 hrt;go_enter Tryz.func141,Tryz.ntmps141;go_wp2_with fail;refine HN.o.mono ?_;rintro e w1 ⟨rfl,rfl⟩;go_wp2_with fail;refine HG.o.mono ?_;rintro e w1 ⟨rfl,av⟩;have uU:=HR.o _ (ao av (.cells #[UE UL a.no,UE UL a.dev,UE UL a.kind,UE UL a.mode,UE UL a.uid,UE UL a.gid,UE UL a.mtime,UE UL a.ctime,UE UL a.ak,UE UL a.up,UF a.data,UG ea el ec] 149));go_wp2_with fail;refine uU.mono ?_;rintro e w2 ⟨rfl,rfl⟩;go_wp2_with fail;go_ret;exact⟨by rw[HA.o];rfl,ao av _⟩
    ·have h4:(rt==no)=false:=by simpa using h2
     clear hr h2 hrt;go_enter Tryz.func141,Tryz.ntmps141;go_wp2_with fail;refine HN.o.mono ?_;rintro e w1 ⟨rfl,rfl⟩;go_wp2_with fail;refine HG.o.mono ?_;rintro e w1 ⟨rfl,av⟩;have uU:=HR.o _ (ao av (.cells #[UE UL a.no,UE UL a.dev,UE UL a.kind,UE UL a.mode,UE UL a.uid,UE UL a.gid,UE UL a.mtime,UE UL a.ctime,UE UL a.ak,UE UL a.up,UF a.data,UG ea el ec] 149));go_wp2_with fail;refine uU.mono ?_;rintro e w2 ⟨rfl,rfl⟩;go_wp2_with fail;go_ret;exact⟨by rw[HA.o];rfl,ao av _⟩
  ·have HA:=Ux (show S.bl no=0 by unfold Fs.bl;rw[hg];simp only;rw[if_pos hkd]);clear h hk hg hao hgc;go_enter Tryz.func141,Tryz.ntmps141;go_wp2_with fail;refine HN.o.mono ?_;rintro e w1 ⟨rfl,rfl⟩;go_wp2_with fail;refine HG.o.mono ?_;rintro e w1 ⟨rfl,av⟩;go_wp2_with fail;go_ret;exact⟨by rw[HA.o];rfl,ao av _⟩
end
end
section
open Go.RowKit
theorem gd{w:World}{base sz n g cap:Nat}{e:TypeId}{xs:List Value}(h:w.ownsRow base e sz (.slice (some ⟨g,0,none⟩) n cap) n xs)(j:Nat)(hj:j<xs.length)(v:Value) :
  (w.setCell ⟨g,j,none⟩ v).ownsRow base e sz (.slice (some ⟨g,0,none⟩) n cap) n (xs.set j v):=by
 rcases h.2 with⟨hv,-⟩|⟨g',cap',cur,hv,hb,hg,h1,h2,h3,h4⟩
 ·cases hv
 ·injection hv with e1 e2 e3;injection e1 with e1;injection e1 with e1;subst e1 e3;refine⟨by rw[List.length_set];exact h.1,.inr ⟨g,cap,_,rfl,hb,ax.set hg j v,h1,h2,by rw[Array.size_setIfInBounds];exact h3,?_⟩⟩;rw[Array.toList_setIfInBounds,List.take_set,h4]
section
variable{w w':World}{pw:Nat}{R:Rp}{S:Fs}
theorem qi(ds:List Dv):(ds.flatMap Dv.cs).length=ds.length*6:=cJ Dv.gu ds
theorem bB.Lv(h:bB w pw R S){g cap:Nat}(hdv:R.dv=.slice (some ⟨g,0,none⟩) S.ds.length cap){k:Nat}(hk:k<S.ds.length)(v:Dv)(hv:S.ds[k]=v)(b n:Int) :
  bB ((((w.setCell ⟨g,k*6+2,none⟩ (UE UL b)).setCell ⟨g,k*6+3,none⟩ (UE UL n)).setCell ⟨g,k*6+4,none⟩ (UE UL v.mb)).setCell ⟨g,k*6+5,none⟩ (UE UL v.mn)) pw R
   (S.aP ((k:Int)+1) {v with b:=b,n:=n})∧
  Mod (fun x=>x=g) w ((((w.setCell ⟨g,k*6+2,none⟩ (UE UL b)).setCell ⟨g,k*6+3,none⟩ (UE UL n)).setCell ⟨g,k*6+4,none⟩ (UE UL v.mb)).setCell ⟨g,k*6+5,none⟩ (UE UL v.mn)):=by
 have hm:Mod (fun x=>x=g) w ((((w.setCell ⟨g,k*6+2,none⟩ (UE UL b)).setCell ⟨g,k*6+3,none⟩ (UE UL n)).setCell ⟨g,k*6+4,none⟩ (UE UL v.mb)).setCell ⟨g,k*6+5,none⟩ (UE UL v.mn)):=
  ((((Mod.refl (fun x=>x=g) w).setCell (a:=⟨g,k*6+2,none⟩) (.inl rfl) _).setCell (a:=⟨g,k*6+3,none⟩) (.inl rfl) _).setCell (a:=⟨g,k*6+4,none⟩) (.inl rfl) _).setCell (a:=⟨g,k*6+5,none⟩) (.inl rfl) _
 refine⟨?_,hm⟩;obtain⟨g',cap',hdv',-,-,-,-,-,cur,hcur⟩:=h.lS (by omega);have e:=hdv.symm.trans hdv';injection e with e;injection e with e;injection e with e;subst e;have hne:∀(x:Nat) (vs:Array Value) (T:TypeId),ax w x vs T→T≠194→x≠g:=by
  rintro x vs T hx hT rfl;unfold ax at hx hcur;rw[hcur] at hx;injection hx with hx;injection hx with _ hx;exact hT hx.symm
 have h1:=hne _ _ _ h.bD (by decide);have h2:=hne _ _ _ h.tab.bD (by decide);have h3:R.pm≠g:=by
  rintro e;have hm:=h.tab.map;unfold dW at hm;rw[e] at hm;unfold ax at hcur;rw[hcur] at hm
  cases hm
 have hl:(S.aP ((k:Int)+1) {v with b:=b,n:=n}).ds=S.ds.set k {v with b:=b,n:=n}:=by
  unfold Fs.aP;rw[show((k:Int)+1-1).toNat=k by omega]
 refine⟨h.bD.mod hm h1,⟨h.tab.bD.mod hm h2,(hm.block _ h.tab.map.lt h3).trans h.tab.map,h.tab.once,h.tab.low⟩,?_,h.ns,fun x hx=>(h.au x hx).gw (fun bk cr hc=>hm.block bk (Array.getElem?_eq_some_iff.1 hc).1 (hne bk cr _ hc (by decide))) hm.size⟩;rw[hl,List.length_set];have h0:=h.fJ;rw[hdv] at h0⊢;have hkl:k*6+5<(S.ds.flatMap Dv.cs).length:=by rw[qi];omega
 have p1:=gd h0 (k*6+2) (by omega) (UE UL b);have p2:=gd p1 (k*6+3) (by rw[List.length_set];omega) (UE UL n);have p3:=gd p2 (k*6+4) (by rw[List.length_set,List.length_set];omega) (UE UL v.mb);have p4:=gd p3 (k*6+5) (by rw[List.length_set,List.length_set,List.length_set];omega) (UE UL v.mn);have hs:=iR Dv.gu ({v with b:=b,n:=n}:Dv) S.ds k hk;rw[←hs];have c0:(S.ds.flatMap Dv.cs)[k*6]?=some (UE UL v.root):=by
  have:=iY Dv.gu S.ds k 0 hk (by omega);rw[Nat.add_zero] at this;rw[this,hv];rfl
 have c1:(S.ds.flatMap Dv.cs)[k*6+1]?=some (UE UL v.aB):=by
  rw[iY Dv.gu S.ds k 1 hk (by omega),hv];rfl
 have e0:(S.ds.flatMap Dv.cs).set (k*6) (UE UL v.root)=S.ds.flatMap Dv.cs:=by
  have hlt:k*6<(S.ds.flatMap Dv.cs).length:=by omega
  rw[List.getElem?_eq_getElem hlt] at c0;injection c0 with c0;rw[←c0,List.set_getElem_self]
 have e1:(S.ds.flatMap Dv.cs).set (k*6+1) (UE UL v.aB)=S.ds.flatMap Dv.cs:=by
  have hlt:k*6+1<(S.ds.flatMap Dv.cs).length:=by omega
  rw[List.getElem?_eq_getElem hlt] at c1;injection c1 with c1;rw[←c1,List.set_getElem_self]
 show World.ownsRow _ 0 194 6 _ _ ((((((((S.ds.flatMap Dv.cs).set (k*6) (UE UL v.root)).set (k*6+1) (UE UL v.aB)).set (k*6+2) (UE UL b)).set (k*6+3) (UE UL n)).set (k*6+4) (UE UL v.mb)).set (k*6+5) (UE UL v.mn)));rw[e0,e1];exact p4
theorem bB.TB(h:bB w pw R S)(a:An){ea:Option Addr}{el ec:Nat}(he:aA w ea el ec a.au)(fk:0≤S.last)(mT:S.last≤1000000) :
  Calls Tryz.prog 150 #[UH (some ⟨R.pt,0,none⟩),a.v ea el ec] w fun e w'=>e=.returned (UE UL (S.last+1))∧∃R',bB w' pw R' (S.add a)∧aS (R.F pw) (R'.F pw) w w'∧R'.pt=R.pt∧R'.dv=R.dv:=by
 refine(Nk (a.nd ea el ec) w R.pt R.pm S.last _ R.eo h.tab fk mT).mono ?_;rintro e w' ⟨rfl,hT,hM⟩;have hM':Mod (R.F pw) w w':=hM.mono (fun k hk=>hk.elim (fun e=>.inr (.inl e)) (fun e=>.inr (.inr (.inl e))));have hst:aS (R.F pw) (R.F pw) w w':=aS.dH hM';have hnw:pw≠R.pt:=by
  intro e;have h1:=h.bD;have h2:=h.tab.bD;rw[e] at h1;unfold ax at h1 h2;rw[h1] at h2;injection h2 with h2;injection h2 with _ h2;revert h2;decide
 have hnm:pw≠R.pm:=by
  intro e;have h1:=h.bD;have h2:=h.tab.map;rw[e] at h1;unfold ax at h1;unfold dW at h2;rw[h1] at h2
  cases h2
 refine⟨rfl,⟨R.pt,R.pm,R.dv,R.G++[⟨{a with no:=S.last+1},ea,el,ec,R.eo⟩],R.eo+1⟩,⟨h.bD.mod hM (fun e=>e.elim hnw hnm),?_,?_,?_,?_⟩,⟨hM',fun k hk=>.inl hk⟩,rfl,rfl⟩
 ·show uK w' R.pt R.pm (S.last+1) ((R.G++[_]).map Gn.e) (R.eo+1);rw[List.map_append];exact hT
 ·refine⟨h.fJ.1,h.fJ.2.imp id fun⟨g,cap,cur,h1,h2,hg,h3⟩=>⟨g,cap,cur,h1,h2,(hM.block g (Array.getElem?_eq_some_iff.1 hg).1 ?_).trans hg,h3⟩⟩;rintro(e|e)
  ·subst e;have h2:=h.tab.bD;unfold ax at h2;rw[hg] at h2;injection h2 with h2;injection h2 with _ h2;revert h2;decide
  ·subst e;have h2:=h.tab.map;unfold dW at h2;rw[hg] at h2
   cases h2
 ·show S.ns++[_]=(R.G++[_]).map (fun g:Gn=>g.a);rw[List.map_append,←h.ns];rfl
 ·intro g hg;rcases List.mem_append.1 hg with hg|hg
  ·exact(h.au g hg).wd h hst
  ·simp only[List.mem_cons,List.not_mem_nil,or_false] at hg;subst hg;exact he.wd h hst
end
end
section
open Go.RowKit
section
variable{w w':World}{pw:Nat}{R:Rp}{S:Fs}
theorem wh{S:Fs}{a:An}(h:S.root a.dev=0):S.make a=(S,0,1):=by unfold Fs.make;rw[if_pos h]
theorem Av{S:Fs}{a:An}{v:Dv}(h:S.root a.dev≠0)(hv:S.dev a.dev=some v)(he:lT v.b v.n v.mb v.mn (cF a.kind a.data.size) 1≠0):S.make a=(S,0,lT v.b v.n v.mb v.mn (cF a.kind a.data.size) 1):=by
 unfold Fs.make;rw[if_neg h,hv];simp only;rw[if_neg he]
theorem DZ{S:Fs}{a:An}{v:Dv}(h:S.root a.dev≠0)(hv:S.dev a.dev=some v)(he:lT v.b v.n v.mb v.mn (cF a.kind a.data.size) 1=0) :
  S.make a=((S.aP a.dev {v with b:=v.b+cF a.kind a.data.size,n:=v.n+1}).add a,S.last+1,0):=by
 unfold Fs.make;rw[if_neg h,hv];simp only;rw[if_pos he]
theorem BV(h:bB w pw R S)(hd:0<S.ds.length)(a:An)(ea:Option Addr)(el ec:Nat)(hr:S.root a.dev=0) :
  Calls Tryz.prog 108 #[UH (some ⟨pw,0,none⟩),a.v ea el ec] w fun e w'=>e=.returned (UK #[UE UL 0,UE UL 1])∧UA w w':=by
 have HR:=Ux (fK (h.an ((Below.refl _ w).alloc (aa _) (.cells #[UE UL a.no,UE UL a.dev,UE UL a.kind,UE UL a.mode,UE UL a.uid,UE UL a.gid,UE UL a.mtime,UE UL a.ctime,UE UL a.ak,UE UL a.up,UF a.data,UG ea el ec] 149))) hd a.dev);rw[hr] at HR;unfold An.v;clear h hd hr;go_enter Tryz.func108,Tryz.ntmps108;go_wp2_with fail;refine HR.o.mono ?_;rintro e w1 ⟨rfl,rfl⟩;go_wp2_with fail;go_ret2;exact⟨rfl,ao (Below.refl _ _) _⟩
theorem EB(h:bB w pw R S){k:Nat}(hk:k<S.ds.length)(a:An)(ea:Option Addr)(el ec:Nat)(he:aA w ea el ec a.au)(hdev:a.dev=(k:Int)+1)(hr:S.root a.dev≠0)(hs:a.data.size≤9223372036854775807)(fk:0≤S.last)(mT:S.last≤1000000) :
  Calls Tryz.prog 108 #[UH (some ⟨pw,0,none⟩),a.v ea el ec] w fun e w'=>e=.returned (UK #[UE UL (S.make a).2.1,UE UL (S.make a).2.2])∧∃R',bB w' pw R' (S.make a).1∧aS (R.F pw) (R'.F pw) w w':=by
 have HR:=Ux (fK (h.an ((Below.refl _ w).alloc (aa _) (.cells #[UE UL a.no,UE UL a.dev,UE UL a.kind,UE UL a.mode,UE UL a.uid,UE UL a.gid,UE UL a.mtime,UE UL a.ctime,UE UL a.ak,UE UL a.up,UF a.data,UG ea el ec] 149))) (by omega) a.dev);obtain⟨g,cap,hdv,hle,zd,hgl,hc,hfg,-⟩:=h.lS (by omega);obtain⟨c0,c1,c2,c3,c4,c5⟩:=hc k hk;obtain⟨v,hv⟩:∃v,S.ds[k]=v:=⟨_,rfl⟩;rw[hv] at c0 c1 c2 c3 c4 c5;obtain⟨pc,-,pz⟩:=h.bD.facts;rw[hdv] at pc;obtain⟨rt,hrt⟩:∃rt,S.root a.dev=rt:=⟨_,rfl⟩;have hrn:=hr;rw[hrt] at HR hr;have uX:S.dev a.dev=some v:=by
  unfold Fs.dev;rw[if_pos (by omega),hdev,show((k:Int)+1-1).toNat=k by omega,List.getElem?_eq_getElem hk,hv]
 obtain⟨n,hn⟩:∃n,S.ds.length=n:=⟨_,rfl⟩;have hkn:k<n:=by omega
 rw[hn] at pc hle;have p6:(rt==0)=false:=by simpa using hr
 have hT:=fun w=>sm v.b v.n v.mb v.mn (cF a.kind a.data.size) 1 w;unfold KM at hT;have HB:=Ux (fun w=>uv a.kind a.data.size (by omega) w);have BF:=Ux (fun(yV:lT v.b v.n v.mb v.mn (cF a.kind a.data.size) 1≠0)=>Av hrn uX yV);have rW:=Ux (fun(yV:lT v.b v.n v.mb v.mn (cF a.kind a.data.size) 1=0)=>DZ hrn uX yV);have HQ:=Ux (fun(yV:lT v.b v.n v.mb v.mn (cF a.kind a.data.size) 1=0)=>show BM v.b v.n v.mb v.mn (cF a.kind a.data.size) 1=v.b+cF a.kind a.data.size∧BL v.b v.n v.mb v.mn (cF a.kind a.data.size) 1=v.n+1 by unfold BM BL;rw[if_pos yV,if_pos yV];exact⟨rfl,rfl⟩);have ou:=Ux h;have nj:=Ux he;have ka:=Ux hdv;have HV:=Ux (show∃hk:k<S.ds.length,S.ds[k]=v from⟨hk,hv⟩);have Kq:=Ux hdev;unfold An.v;rw[hdev] at HR⊢;have B1:=ax.new w #[UE UL a.no,UE UL ((k:Int)+1),UE UL a.kind,UE UL a.mode,UE UL a.uid,UE UL a.gid,UE UL a.mtime,UE UL a.ctime,UE UL a.ak,UE UL a.up,UF a.data,UG ea el ec] 149;have av:=(UB w).alloc (aa _) (.cells #[UE UL a.no,UE UL ((k:Int)+1),UE UL a.kind,UE UL a.mode,UE UL a.uid,UE UL a.gid,UE UL a.mtime,UE UL a.ctime,UE UL a.ak,UE UL a.up,UF a.data,UG ea el ec] 149);clear h hr hrn hrt hn hv hc hdv uX he hk hdev c0 c1;generalize cF a.kind a.data.size=bk at hT HB BF rW HQ;generalize lT v.b v.n v.mb v.mn bk 1=e0 at hT BF rW HQ;generalize BM v.b v.n v.mb v.mn bk 1=qb at hT HQ;generalize BL v.b v.n v.mb v.mn bk 1=qn at hT HQ;have HT:=Ux hT;clear hT;go_enter Tryz.func108,Tryz.ntmps108;go_wp2_with fail;refine HR.o.mono ?_;rintro e w1 ⟨rfl,rfl⟩;generalize w.alloc _=W at B1 av⊢;obtain⟨Bn,Db⟩:∃Bn,w.heap.size=Bn:=⟨_,rfl⟩;rw[Db] at B1⊢;obtain⟨bc,bf,bz⟩:=B1.facts;rw[←av.cell (p:=⟨g,k*6+2,none⟩) hgl] at c2;rw[←av.cell (p:=⟨g,k*6+3,none⟩) hgl] at c3;rw[←av.cell (p:=⟨g,k*6+4,none⟩) hgl] at c4;rw[←av.cell (p:=⟨g,k*6+5,none⟩) hgl] at c5;have pc1:W.cell? ⟨pw,1,none⟩=_:=(av.cell (p:=⟨pw,1,none⟩) pz).trans (pc 1);have uI:g<W.heap.size:=Nat.lt_of_lt_of_le hgl av.size;have hpW:pw<W.heap.size:=Nat.lt_of_lt_of_le pz av.size;have HW:=Ux av;have dX:=Ux B1;have HBn:=Ux Db;clear pc av B1 Db;go_upto_region 3 with(fail)
 go_cut [6,7] (fun t6 t7 wx=>∃Bq:Nat,t6=UH (some ⟨Bq,0,none⟩)∧t7=UE UL e0∧ax wx Bq #[UE UL qb,UE UL qn,UE UL v.mb,UE UL v.mn] 192∧UA W wx)
 case first=>
  go_wp2_with fail;have rK:IntKind.i64.wrap ((k:Int)+1-1)=(k:Int):=by rw[IntKind.wrap_i64];omega
  have xQ:IntKind.i64.wrap (k:Int)=(k:Int):=by rw[IntKind.wrap_i64];omega
  have cl:(k:Int)<(n:Int):=by omega
  have dM:(0:Int)≤(k:Int):=by omega
  have hzz:W.heap.size≤W.heap.size:=aa _
  go_region_held3 (fun w'=>(∀b o,b<W.heap.size→w'.cell? ⟨b,o,none⟩=W.cell? ⟨b,o,none⟩)∧UA W w') (first|with_reducible assumption|with_reducible exact eH _|with_reducible exact dU _|with_reducible exact eb (by assumption) (by assumption)|with_reducible exact dF (by assumption) _|with_reducible exact du (by assumption) _|with_reducible exact cX (by assumption) (by assumption)|with_reducible exact eG (by assumption) (by assumption))
   (first|(go_at_call 149;((with_reducible refine(HB.o _).mono ?_);rintro e w4 ⟨rfl,rfl⟩))|(go_at_call 148;((with_reducible refine(HT.o _).mono ?_);rintro e w4 ⟨rfl,cK⟩;have hz5:=ae (And.right ‹(∀b o,b<W.heap.size→_)∧UA W _›).size cK.size;try (have hbq:=kD cK;obtain⟨bqc,bqf,bqz⟩:=hbq.facts))))
  all_goals
   obtain⟨-,oY⟩:=‹_∧UA W _›;have re:=Ux oY
   try (have Hj:=Ux hbq)
   clear oY;go_wp2_with fail;go_meet;exact⟨_,rfl,rfl,by first|exact Hj.o.dA|exact ax.new _ _ _,re.o⟩
 case rest=>
  obtain⟨Bq,rfl,rfl,hQ,hS⟩:=hcut;have HS:=Ux hS;have GQ:=Ux (show UA w wc from HW.o.trans (hS.mono HW.o.size));by_cases h0:e0=0
  ·obtain⟨hk,hv⟩:=HV.o;obtain⟨rfl,rfl⟩:=HQ.o h0;have kS:=Ux (rW.o h0);subst h0;obtain⟨qc,qf,qz⟩:=hQ.facts;have pcw:wc.cell? ⟨pw,1,none⟩=_:=(hS.cell (p:=⟨pw,1,none⟩) hpW).trans pc1;have bcw:wc.cell? ⟨Bn,1,none⟩=_:=(hS.cell (p:=⟨Bn,1,none⟩) bz).trans (bc 1);rw[←hS.cell (p:=⟨g,k*6+2,none⟩) uI] at c2;rw[←hS.cell (p:=⟨g,k*6+3,none⟩) uI] at c3;rw[←hS.cell (p:=⟨g,k*6+4,none⟩) uI] at c4;rw[←hS.cell (p:=⟨g,k*6+5,none⟩) uI] at c5;have hfw:∀i,wc.frozen? ⟨g,i,none⟩=false:=fun i=>(GQ.o.frozen (p:=⟨g,i,none⟩) hgl).trans (hfg i);have JH:=ou.o.an GQ.o;obtain⟨xY,N8⟩:=JH.Lv ka.o hk v hv (v.b+bk) (v.n+1);have hgF:R.F pw g:=.inr (.inr (.inr (by rw[ka.o];rfl)));have tM:aS (R.F pw) (R.F pw) wc _:=aS.dH (N8.mono (fun x hx=>by rw[hx];exact hgF));have HEq:=Ux ((nj.o.an GQ.o).wd JH tM);have JV:=(dX.o.an hS).wd JH tM rfl;have Nr:=Ux xY;have jY:=Ux ((aS.aq GQ.o).trans tM);clear JH xY N8 tM pc1 hfg;go_wp2_with fail;have mixed:Tryz.prog.follows .mixedOrders=true:=by kernel_rfl
   have rK:IntKind.i64.wrap ((k:Int)+1-1)=(k:Int):=by rw[IntKind.wrap_i64];omega
   have xQ:IntKind.i64.wrap (k:Int)=(k:Int):=by rw[IntKind.wrap_i64];omega
   have cl:(k:Int)<(n:Int):=by omega
   have dM:(0:Int)≤(k:Int):=by omega
   refine aG 8 mixed (by kernel_rfl) eQ ?_;simp only[List.take_succ_cons,List.take_zero,List.drop_succ_cons,List.drop_zero]
   repeat still_step
   refine wpStill_nil ?_;go_wp2_with fail;generalize World.setCell _ _ _=X at HEq JV Nr jY⊢;obtain⟨xc,-,xz⟩:=Nr.o.bD.facts;obtain⟨bc,bf,bz⟩:=JV.facts;clear c2 c3 c4 c5 hfw pcw bcw qc qf qz;refine aG 5 mixed (by kernel_rfl) eQ ?_;simp only[List.take_succ_cons,List.take_zero,List.drop_succ_cons,List.drop_zero]
   repeat still_step
   refine wpStill_nil ?_;have uZ:UA X X.drew.drew:=((Below.refl _ X).drew).drew;have hAdd:=(Nr.o.an uZ).TB a (HEq.o.an uZ) fk mT;unfold An.v at hAdd;rw[Kq.o] at hAdd;have HAdd:=Ux hAdd;clear hAdd;go_wp2_with fail;refine HAdd.o.mono ?_;rintro e w5 ⟨rfl,R',ez,dw,-,-⟩;have Hi:=Ux (ag ez dw);clear ez dw;go_wp2_with fail;go_ret2;rw[kS.o];refine⟨rfl,R',?_,(jY.o.trans (aS.aq uZ)).trans Hi.o.2⟩;rw[Kq.o];exact Hi.o.1
  ·have kS:=Ux (BF.o h0);have lx:(e0 != 0)=true:=by simpa using h0
   clear h0;go_wp2_with fail;go_ret2;rw[kS.o];exact⟨rfl,R,ou.o.an GQ.o,aS.aq GQ.o⟩
end
end
section
open Go.RowKit
theorem aH{w:World}{base sz n k:Nat}{e:TypeId}{v:Value}{xs:List Value}(h:w.ownsRow base e sz v n xs)(hk:v.ownBlock=some k):base≤k∧∃cur,w.heap[k]?=some (.cells cur e (0,0)):=by
 rcases h.2 with⟨rfl,-⟩|⟨g,cap,cur,rfl,hb,hg,-⟩
 ·cases hk
 ·simp only[Value.ownBlock,Option.some.injEq] at hk;subst hk;exact⟨hb,cur,hg⟩
section
variable{w w':World}{pw:Nat}{R:Rp}{S:Fs}
theorem bB.DL(h:bB w pw R S)(hM:Mod (fun k=>k=R.pt∨k=R.pm) w w'):aS (R.F pw) (R.F pw) w w'∧ax w' pw #[UH (some ⟨R.pt,0,none⟩),R.dv] 46∧w'.ownsRow 0 194 6 R.dv S.ds.length (S.ds.flatMap Dv.cs):=by
 have hM':Mod (R.F pw) w w':=hM.mono (fun k hk=>hk.elim (fun e=>.inr (.inl e)) (fun e=>.inr (.inr (.inl e))));have hap:∀(x:Nat) (vs:Array Value) (T:TypeId),ax w x vs T→T≠89→¬(x=R.pt∨x=R.pm):=by
  rintro x vs T hx hT (rfl|rfl)
  ·have h2:=h.tab.bD;unfold ax at hx h2;rw[hx] at h2;injection h2 with h2;injection h2 with _ h2;exact hT h2
  ·have h2:=h.tab.map;unfold dW at h2;unfold ax at hx;rw[hx] at h2
   cases h2
 refine⟨aS.dH hM',h.bD.mod hM (hap _ _ _ h.bD (by decide)),⟨h.fJ.1,h.fJ.2.imp id fun⟨g,cap,cur,h1,h2,hg,h3⟩=>⟨g,cap,cur,h1,h2,(hM.block g (Array.getElem?_eq_some_iff.1 hg).1 (hap _ _ _ hg (by decide))).trans hg,h3⟩⟩⟩
def Gn.put(a:An)(ea:Option Addr)(el ec:Nat)(g:Gn):Gn:=if g.a.no==a.no then⟨a,ea,el,ec,g.eo⟩ else g
theorem bB.xr(h:bB w pw R S)(a:An){ea:Option Addr}{el ec:Nat}(he:aA w ea el ec a.au){b:An}(hb:S.get a.no=some b) :
  Calls Tryz.prog 117 #[UH (some ⟨R.pt,0,none⟩),a.v ea el ec] w fun e w'=>e=.returned (.bool true)∧∃R',bB w' pw R' (S.set a)∧aS (R.F pw) (R'.F pw) w w'∧R'.pt=R.pt∧R'.dv=R.dv:=by
 obtain⟨g0,-,-,hf,-⟩:=QB h hb;refine(Lr g0.nd (a.nd ea el ec) w R.pt R.pm S.last _ R.eo h.tab hf).mono ?_;rintro e w' ⟨rfl,hT,hM⟩;obtain⟨hst,hblk,hdv⟩:=h.DL hM;refine⟨rfl,⟨R.pt,R.pm,R.dv,R.G.map (Gn.put a ea el ec),R.eo⟩,⟨hblk,?_,hdv,?_,?_⟩,⟨hst.mod,fun k hk=>.inl hk⟩,rfl,rfl⟩
 ·show uK w' R.pt R.pm S.last ((R.G.map (Gn.put a ea el ec)).map Gn.e) R.eo;have e:(R.G.map (Gn.put a ea el ec)).map Gn.e=(R.G.map Gn.e).map fun x=>if x.1.no==(a.nd ea el ec).no then(a.nd ea el ec,x.2) else x:=by
   rw[List.map_map,List.map_map];apply List.map_congr_left;intro g _;simp only[Function.comp_apply,Gn.put];show Gn.e (if(g.a.no==a.no)=true then _ else g)=if(g.a.no==a.no)=true then _ else _
   split
   ·rfl
   ·rfl
  rw[e];exact hT
 ·show(S.ns.map _)=(R.G.map (Gn.put a ea el ec)).map (fun g:Gn=>g.a);rw[h.ns,List.map_map,List.map_map];apply List.map_congr_left;intro g _;simp only[Function.comp_apply,Gn.put]
  split<;>rfl
 ·intro g hg;obtain⟨g1,iL,rfl⟩:=List.mem_map.1 hg;unfold Gn.put
  split
  ·exact he.wd h hst
  ·exact(h.au g1 iL).wd h hst
theorem J':(Tryz.prog.info? 194).map (fun i=>(i.zero,i.size,i.bytes))=some (some (UJ #[UE UL 0,UE UL 0,UE UL 0,UE UL 0,UE UL 0,UE UL 0]),6,48):=by kernel_rfl
def Fs.qA(S:Fs)(aB b n:Int):Fs:={S with ds:=S.ds++[⟨0,aB,1,1,b,n⟩]}
theorem bB.app(h:bB w pw R S)(hl:S.ds.length≤100)(ad:Addr)(aB b n:Int)(had:∀j u,(Dv.cs ⟨0,aB,1,1,b,n⟩)[j]?=some u→w.cell? (ad.add j)=some u) :
  ∃g cap W,(Builtin.append_ #[44,44] 44 #[R.dv,.slice (some ad) 1 1]).run Tryz.prog w=.ok (.slice (some ⟨g,0,none⟩) (S.ds.length+1) cap) W∧
   bB (W.setCell ⟨pw,1,none⟩ (.slice (some ⟨g,0,none⟩) (S.ds.length+1) cap)) pw {R with dv:=.slice (some ⟨g,0,none⟩) (S.ds.length+1) cap} (S.qA aB b n)∧
   aS (R.F pw) (Rp.F {R with dv:=.slice (some ⟨g,0,none⟩) (S.ds.length+1) cap} pw) w (W.setCell ⟨pw,1,none⟩ (.slice (some ⟨g,0,none⟩) (S.ds.length+1) cap))∧
   ax W pw #[UH (some ⟨R.pt,0,none⟩),R.dv] 46∧Mod (fun k=>R.dv.ownBlock=some k) w W:=by
 obtain⟨i0,hi,kp,fj,fo⟩:=info_parts J';obtain⟨g,cap,W,h1,h2,h3,h4⟩:=eX (44) Tryz.underlying44 hi kp fj fo rfl (by omega) h.fJ ad 1 1 (Dv.cs ⟨0,aB,1,1,b,n⟩) rfl had (by intro u hu;simp[Dv.cs] at hu;rcases hu with rfl|rfl|rfl|rfl|rfl<;>rfl) (by omega) (by unfold maxLen;omega) (by omega) (Nat.zero_le _);have hM:Mod (R.F pw) w W:=h3.mono (fun k hk=>.inr (.inr (.inr hk)));have hap:∀(x:Nat) (vs:Array Value) (T:TypeId),ax w x vs T→T≠194→¬(R.dv.ownBlock=some x):=by
  intro x vs T hx hT hk;obtain⟨-,cur,hc⟩:=aH h.fJ hk;unfold ax at hx;rw[hx] at hc;injection hc with hc;injection hc with _ hc;exact hT hc
 have mZ:ax W pw #[UH (some ⟨R.pt,0,none⟩),R.dv] 46:=h.bD.mod h3 (hap _ _ _ h.bD (by decide));have hpg:pw≠g:=by
  rintro rfl;rcases h4 with h4|h4
  ·exact hap _ _ _ h.bD (by decide) h4
  ·have:=h.bD.lt;omega
 have hmap:¬(R.dv.ownBlock=some R.pm):=fun hk=>by
  obtain⟨-,cur,hc⟩:=aH h.fJ hk;have:=h.tab.map;unfold dW at this;rw[hc] at this
  cases this
 have ib:aS (R.F pw) (R.F pw) w (W.setCell ⟨pw,1,none⟩ (.slice (some ⟨g,0,none⟩) (S.ds.length+1) cap)):=aS.dH (hM.setCell (.inl (.inl rfl)) _);have hnt:pw≠R.pt:=fun e=>by
  have h1:=h.bD;have h2:=h.tab.bD;rw[e] at h1;unfold ax at h1 h2;rw[h1] at h2;injection h2 with h2;injection h2 with _ h2;revert h2;decide
 have hnm:pw≠R.pm:=fun e=>by
  have h1:=h.bD;have h2:=h.tab.map;rw[e] at h1;unfold ax at h1;unfold dW at h2;rw[h1] at h2;cases h2
 refine⟨g,cap,W,h1,⟨?_,⟨?_,?_,h.tab.once,h.tab.low⟩,?_,h.ns,fun x hx=>(h.au x hx).wd h ib⟩,⟨ib.mod,fun k hk=>?_⟩,mZ,h3⟩
 ·exact mZ.set 1 _
 ·exact(h.tab.bD.mod h3 (hap _ _ _ h.tab.bD (by decide))).setOther _ _ hnt
 ·exact dW.setOther ((h3.block _ h.tab.map.lt hmap).trans h.tab.map) _ _ hnm
 ·show World.ownsRow _ 0 194 6 _ (S.ds++[_]).length ((S.ds++[_]).flatMap Dv.cs);rw[List.length_append,List.length_singleton,List.flatMap_append,List.flatMap_singleton];refine bY h2 ((Mod.refl (fun k=>k=pw) W).setCell (a:=⟨pw,1,none⟩) (.inl rfl) _) (fun k hk e=>?_);subst hk;simp only[Value.ownBlock,Option.some.injEq] at e;exact hpg e.symm
 ·rcases hk with hk|hk|hk|hk
  ·exact .inl (.inl hk)
  ·exact .inl (.inr (.inl hk))
  ·exact .inl (.inr (.inr (.inl hk)))
  ·simp only[Value.ownBlock,Option.some.injEq] at hk;subst hk;rcases h4 with h4|h4
   ·exact .inl (.inr (.inr (.inr h4)))
   ·exact .inr (by omega)
end
end
section
open Go.RowKit
theorem vK{α:Type}{enc:α→List Value}{w:World}{base sz n:Nat}{e:TypeId}{v:Value}{ys:List α}(hpos:0<sz)(hl:∀x,(enc x).length=sz)(h:w.ownsRow base e sz v n (ys.flatMap enc))(hn:0<n) :
  ∃g cap,v=.slice (some ⟨g,0,none⟩) n cap∧ys.length=n∧n≤cap∧cap≤9223372036854775807∧base≤g∧g<w.heap.size∧
   (∀(i:Nat) (hi:i<ys.length) (j:Nat) (hj:j<sz),w.cell? ⟨g,i*sz+j,none⟩=some ((enc ys[i])[j]'(by rw[hl];exact hj)))∧∃cur,ax w g cur e:=by
 obtain⟨a,cap,rfl,hle,zd,hf⟩:=bQ h;rcases hf with⟨-,h1,-⟩|⟨g,rfl,hb,hg⟩
 ·omega
 ·obtain⟨hy,-,-,h1|⟨b,off,he,aY,hel⟩⟩:=fe (R:=fun cs x=>cs=enc x) hpos hl (fun _=>rfl) h
  ·omega
  ·injection he with he;injection he with e1 e2;subst e1 e2;obtain⟨cur,hcur⟩:∃cur,ax w g cur e:=by
    rcases h.2 with⟨h1,-⟩|⟨g',cap',cur,h1,-,hg',-⟩
    ·cases h1
    ·injection h1 with h1;injection h1 with h1;injection h1 with h1;subst h1;exact⟨cur,hg'⟩
   refine⟨g,cap,rfl,hy,hle,zd,hb,hg,fun i hi j hj=>?_,cur,hcur⟩;obtain⟨cs,h2,h3,h4⟩:=hel i hi;subst h3;have:=h4 j (by rw[hl];exact hj);rw[Nat.zero_add] at this;exact this
def Gn.cs(g:Gn):List Value:=[UE UL g.a.no,UE UL g.a.dev,UE UL g.a.kind,UE UL g.a.mode,UE UL g.a.uid,UE UL g.a.gid,UE UL g.a.mtime,UE UL g.a.ctime,UE UL g.a.ak,UE UL g.a.up,UF g.a.data,UG g.ea g.el g.ec]
theorem Gn.gu(g:Gn):g.cs.length=12:=rfl
structure Rf where
 nv:Value
 dv:Value
 G:List Gn
 now:Int
 jc:Value
 pl:Value
 dd:Value
def Rf.F(R:Rf)(pf k:Nat):Prop:=k=pf∨R.nv.ownBlock=some k∨R.dv.ownBlock=some k
structure aW(w:World)(pf:Nat)(R:Rf)(S:Fs):Prop where
 bD:ax w pf #[R.nv,R.dv,UE UL S.last,UE UL R.now,R.jc,R.pl,R.dd] 55
 ti:w.ownsRow 0 149 12 R.nv R.G.length (R.G.flatMap Gn.cs)
 fJ:w.ownsRow 0 266 6 R.dv S.ds.length (S.ds.flatMap Dv.cs)
 ns:S.ns=R.G.map (·.a)
 au:∀g∈R.G,aA w g.ea g.el g.ec g.a.au
def nQ(o:Obj):Bool:=match o with
 | .cells _ t _=>t==55||t==149||t==266
 |_=>false
section
variable{w w':World}{pf:Nat}{R:Rf}{S:Fs}
theorem aW.kind(h:aW w pf R S){k:Nat}(hk:R.F pf k):∃o,w.heap[k]?=some o∧nQ o=true:=by
 rcases hk with rfl|hk|hk
 ·exact⟨_,h.bD,rfl⟩
 ·obtain⟨-,cur,hc⟩:=aH h.ti hk;exact⟨_,hc,rfl⟩
 ·obtain⟨-,cur,hc⟩:=aH h.fJ hk;exact⟨_,hc,rfl⟩
theorem aW.lt(h:aW w pf R S){k:Nat}(hk:R.F pf k):k<w.heap.size:=by
 obtain⟨o,ho,-⟩:=h.kind hk;exact(Array.getElem?_eq_some_iff.1 ho).1
theorem aA.rf{a:Option Addr}{n c:Nat}{es:List En}(he:aA w a n c es)(h:aW w pf R S){F':Nat→Prop}(hs:aS (R.F pf) F' w w'):aA w' a n c es:=
 he.gw (fun b cur hc=>hs.mod.block b (Array.getElem?_eq_some_iff.1 hc).1 (fun hk=>by
  obtain⟨o,ho,hd⟩:=h.kind hk;rw[hc] at ho;injection ho with ho;subst ho;rw[show nQ (.cells cur 98 (0,0))=false from rfl] at hd
  cases hd)) hs.mod.size
theorem ax.rf{B:Nat}{vs:Array Value}{T:TypeId}(hb:ax w B vs T)(h:aW w pf R S){F':Nat→Prop}(hs:aS (R.F pf) F' w w')(hT:nQ (.cells #[] T (0,0))=false):ax w' B vs T:=
 hb.mod hs.mod (fun hk=>by
  obtain⟨o,ho,hd⟩:=h.kind hk;unfold ax at hb;rw[hb] at ho;injection ho with ho;subst ho;rw[show nQ (.cells vs T (0,0))=nQ (.cells #[] T (0,0)) from rfl,hT] at hd
  cases hd)
theorem sU{base sz n:Nat}{e:TypeId}{v:Value}{xs:List Value}(h:w.ownsRow base e sz v n xs)(ht:∀k,v.ownBlock=some k→w'.heap[k]?=w.heap[k]?):w'.ownsRow base e sz v n xs:=
 ⟨h.1,h.2.imp id fun⟨g,cap,cur,h1,h2,hg,h3⟩=>⟨g,cap,cur,h1,h2,(ht g (by rw[h1];rfl)).trans hg,h3⟩⟩
theorem aW.gw(h:aW w pf R S)(ht:∀k,R.F pf k→w'.heap[k]?=w.heap[k]?)(he:∀(b:Nat) (cur:Array Value),w.heap[b]?=some (.cells cur 98 (0,0))→w'.heap[b]?=w.heap[b]?)(hs:w.heap.size≤w'.heap.size):aW w' pf R S where
 bD:=(ht _ (.inl rfl)).trans h.bD
 ti:=sU h.ti (fun k hk=>ht k (.inr (.inl hk)))
 fJ:=sU h.fJ (fun k hk=>ht k (.inr (.inr hk)))
 ns:=h.ns
 au:=fun g hg=>(h.au g hg).gw he hs
theorem aW.an(h:aW w pf R S)(hb:UA w w'):aW w' pf R S:=
 h.gw (fun k hk=>hb.block k (h.lt hk)) (fun b cur hc=>hb.block b (Array.getElem?_eq_some_iff.1 hc).1) hb.size
theorem aW.mod(h:aW w pf R S){F:Nat→Prop}(hm:Mod F w w')(hF:∀(k:Nat) (o:Obj),F k→w.heap[k]?=some o→nQ o=false∧∀cur,o≠.cells cur 98 (0,0)):aW w' pf R S:=
 h.gw (fun k hk=>hm.block k (h.lt hk) (fun hf=>by
  obtain⟨o,ho,hd⟩:=h.kind hk;rw[(hF k o hf ho).1] at hd
  cases hd)) (fun b cur hc=>hm.block b (Array.getElem?_eq_some_iff.1 hc).1 (fun hf=>(hF b _ hf hc).2 cur rfl)) hm.size
theorem aW.len(h:aW w pf R S):S.ns.length=R.G.length:=by rw[h.ns,List.length_map]
theorem OV(h:aW w pf R S)(k:Int):S.get k=(R.G.find? (fun g=>g.a.no==k)).map (·.a):=by
 unfold Fs.get;rw[h.ns,List.find?_map];rfl
def kj(G:List Gn)(no:Int):Int:=match G.findIdx? (fun g=>g.a.no==no) with|some i=>i|none=>-1
theorem CD{G:List Gn}{no:Int}{i:Nat}(hi:i<G.length)(h1:G[i].a.no=no)(h2:∀j (hj:j<G.length),j<i→G[j].a.no≠no):kj G no=i:=by
 unfold kj;rw[show G.findIdx? (fun g=>g.a.no==no)=some i from List.findIdx?_eq_some_iff_getElem.2 ⟨hi,by simpa using h1,fun j hj=>by simpa using h2 j (by omega) hj⟩]
theorem FA{G:List Gn}{no:Int}(h2:∀j (hj:j<G.length),G[j].a.no≠no):kj G no=-1:=by
 unfold kj;rw[show G.findIdx? (fun g=>g.a.no==no)=none from List.findIdx?_eq_none_iff.2 (fun g hg=>by
  obtain⟨j,hj,rfl⟩:=List.mem_iff_getElem.1 hg;simpa using h2 j hj)]
theorem pV(h:aW w pf R S)(k:Int):(∃(i:Nat) (hi:i<R.G.length),kj R.G k=i∧S.get k=some R.G[i].a∧R.G[i].a.no=k)∨(kj R.G k=-1∧S.get k=none):=by
 rw[OV h];unfold kj
 cases hf:R.G.findIdx? (fun g=>g.a.no==k) with
 |some i=>
  obtain⟨hi,h1,h2⟩:=List.findIdx?_eq_some_iff_getElem.1 hf;left;refine⟨i,hi,rfl,?_,by simpa using h1⟩;rw[show R.G.find? (fun g=>g.a.no==k)=some R.G[i] from List.find?_eq_some_iff_getElem.2 ⟨h1,i,hi,rfl,fun j hj=>by simpa using h2 j hj⟩];rfl
 |none=>
  right;refine⟨rfl,?_⟩;rw[List.findIdx?_eq_none_iff] at hf;rw[show R.G.find? (fun g=>g.a.no==k)=none from List.find?_eq_none.2 (fun g hg=>by simpa using hf g hg)];rfl
structure NdC(w:World)(g o:Nat)(a:An)(ea:Option Addr)(el ec:Nat):Prop where
 c0:w.cell? ⟨g,o,none⟩=some (UE UL a.no)
 c1:w.cell? ⟨g,o+1,none⟩=some (UE UL a.dev)
 c2:w.cell? ⟨g,o+2,none⟩=some (UE UL a.kind)
 c3:w.cell? ⟨g,o+3,none⟩=some (UE UL a.mode)
 c4:w.cell? ⟨g,o+4,none⟩=some (UE UL a.uid)
 c5:w.cell? ⟨g,o+5,none⟩=some (UE UL a.gid)
 c6:w.cell? ⟨g,o+6,none⟩=some (UE UL a.mtime)
 c7:w.cell? ⟨g,o+7,none⟩=some (UE UL a.ctime)
 c8:w.cell? ⟨g,o+8,none⟩=some (UE UL a.ak)
 c9:w.cell? ⟨g,o+9,none⟩=some (UE UL a.up)
 Q2:w.cell? ⟨g,o+10,none⟩=some (UF a.data)
 Q1:w.cell? ⟨g,o+11,none⟩=some (UG ea el ec)
theorem aW.cj(h:aW w pf R S)(hn:0<R.G.length):∃g cap,R.nv=.slice (some ⟨g,0,none⟩) R.G.length cap∧R.G.length≤cap∧cap≤9223372036854775807∧g<w.heap.size∧
  (∀(i:Nat) (hi:i<R.G.length),NdC w g (i*12) R.G[i].a R.G[i].ea R.G[i].el R.G[i].ec)∧(∀i,w.frozen? ⟨g,i,none⟩=false)∧∃cur,ax w g cur 149:=by
 obtain⟨g,cap,hv,-,h1,h2,-,h3,h4,cur,h5⟩:=vK (by omega) Gn.gu h.ti hn;exact⟨g,cap,hv,h1,h2,h3,fun i hi=>⟨h4 i hi 0 (by omega),h4 i hi 1 (by omega),h4 i hi 2 (by omega),h4 i hi 3 (by omega),h4 i hi 4 (by omega),h4 i hi 5 (by omega),h4 i hi 6 (by omega),h4 i hi 7 (by omega),h4 i hi 8 (by omega),h4 i hi 9 (by omega),h4 i hi 10 (by omega),h4 i hi 11 (by omega)⟩,h5.frozen,cur,h5⟩
theorem aW.lS(h:aW w pf R S)(hd:0<S.ds.length):∃g cap,R.dv=.slice (some ⟨g,0,none⟩) S.ds.length cap∧S.ds.length≤cap∧cap≤9223372036854775807∧g<w.heap.size∧
  (∀(i:Nat) (hi:i<S.ds.length),DvC w g (i*6) S.ds[i])∧(∀i,w.frozen? ⟨g,i,none⟩=false)∧∃cur,ax w g cur 266:=by
 obtain⟨g,cap,hv,-,h1,h2,-,h3,h4,cur,h5⟩:=vK (by omega) Dv.gu h.fJ hd;exact⟨g,cap,hv,h1,h2,h3,fun i hi=>⟨h4 i hi 0 (by omega),h4 i hi 1 (by omega),h4 i hi 2 (by omega),h4 i hi 3 (by omega),h4 i hi 4 (by omega),h4 i hi 5 (by omega)⟩,h5.frozen,cur,h5⟩
theorem aW.Jb(h:aW w pf R S):∃a c,R.nv=UG a R.G.length c∧R.G.length≤c∧c≤9223372036854775807:=by
 obtain⟨a,c,h1,h2,h3,-⟩:=bQ h.ti;exact⟨a,c,h1,h2,h3⟩
theorem aW.Ef(h:aW w pf R S):∃a c,R.dv=UG a S.ds.length c∧S.ds.length≤c∧c≤9223372036854775807:=by
 obtain⟨a,c,h1,h2,h3,-⟩:=bQ h.fJ;exact⟨a,c,h1,h2,h3⟩
end
def Fs.bG(S:Fs)(k:Int):An:=(S.get k).getD dD
theorem bW{S:Fs}{k:Int}{a:An}(h:S.get k=some a):S.bG k=a:=by unfold Fs.bG;rw[h];rfl
theorem gl{S:Fs}{k:Int}(h:S.get k=none):S.bG k=dD:=by unfold Fs.bG;rw[h];rfl
end
section
open Go.RowKit
section
variable{w w':World}{pw:Nat}{R:Rp}{S:Fs}
theorem Li(b n:Int)(h:ig b n=true):KM 0 0 b n 1 1=UK #[UJ #[UE UL 1,UE UL 1,UE UL b,UE UL n],UE UL 0]:=by
 obtain⟨h1,h2,h3,h4⟩:=pY h;have e:lT 0 0 b n 1 1=0:=by
  unfold lT qE jl;simp;omega
 have:=B8 0 0 b n 1 1 e;simpa using this
theorem bB.Lu(h:bB w pw R S){g cap:Nat}(hdv:R.dv=.slice (some ⟨g,0,none⟩) S.ds.length cap){k:Nat}(hk:k<S.ds.length)(v:Dv)(hv:S.ds[k]=v)(r:Int) :
  bB (w.setCell ⟨g,k*6,none⟩ (UE UL r)) pw R {S with ds:=S.ds.set k {v with root:=r}}∧Mod (fun x=>x=g) w (w.setCell ⟨g,k*6,none⟩ (UE UL r)):=by
 have hm:Mod (fun x=>x=g) w (w.setCell ⟨g,k*6,none⟩ (UE UL r)):=(Mod.refl (fun x=>x=g) w).setCell (a:=⟨g,k*6,none⟩) (.inl rfl) _;refine⟨?_,hm⟩;obtain⟨g',cap',hdv',-,-,-,-,-,cur,hcur⟩:=h.lS (by omega);have e:=hdv.symm.trans hdv';injection e with e;injection e with e;injection e with e;subst e;have hne:∀(x:Nat) (vs:Array Value) (T:TypeId),ax w x vs T→T≠194→x≠g:=by
  rintro x vs T hx hT rfl;unfold ax at hx hcur;rw[hcur] at hx;injection hx with hx;injection hx with _ hx;exact hT hx.symm
 have h3:R.pm≠g:=by
  rintro e;have hm:=h.tab.map;unfold dW at hm;rw[e] at hm;unfold ax at hcur;rw[hcur] at hm
  cases hm
 refine⟨h.bD.mod hm (hne _ _ _ h.bD (by decide)),⟨h.tab.bD.mod hm (hne _ _ _ h.tab.bD (by decide)),(hm.block _ h.tab.map.lt h3).trans h.tab.map,h.tab.once,h.tab.low⟩,?_,h.ns,fun x hx=>(h.au x hx).gw (fun bk cr hc=>hm.block bk (Array.getElem?_eq_some_iff.1 hc).1 (hne bk cr _ hc (by decide))) hm.size⟩;show World.ownsRow _ 0 194 6 R.dv (S.ds.set k _).length ((S.ds.set k _).flatMap Dv.cs);rw[List.length_set];have h0:=h.fJ;rw[hdv] at h0⊢;have hkl:k*6+5<(S.ds.flatMap Dv.cs).length:=by rw[qi];omega
 have p1:=gd h0 (k*6) (by omega) (UE UL r);have hs:=iR Dv.gu ({v with root:=r}:Dv) S.ds k hk;rw[←hs];have hsame:∀(l:List Value) (j:Nat) (u:Value),l[j]?=some u→l.set j u=l:=by
  intro l j u hu;obtain⟨hlt,rfl⟩:=List.getElem?_eq_some_iff.1 hu;rw[List.set_getElem_self]
 have c:∀j (hj:j<6),(S.ds.flatMap Dv.cs)[k*6+j]?=(Dv.cs v)[j]?:=fun j hj=>by rw[iY Dv.gu S.ds k j hk hj,hv]
 have c':∀j (u:Value),1≤j→j<6→(Dv.cs v)[j]?=some u→((S.ds.flatMap Dv.cs).set (k*6) (UE UL r)).set (k*6+j) u=(S.ds.flatMap Dv.cs).set (k*6) (UE UL r):=fun j u h1 h6 hu=>
  hsame _ _ _ (by rw[List.getElem?_set_ne (by omega),c j h6,hu])
 show World.ownsRow _ 0 194 6 _ _ ((((((((S.ds.flatMap Dv.cs).set (k*6) (UE UL r)).set (k*6+1) (UE UL v.aB)).set (k*6+2) (UE UL v.b)).set (k*6+3) (UE UL v.n)).set (k*6+4) (UE UL v.mb)).set (k*6+5) (UE UL v.mn)));rw[c' 1 _ (by omega) (by omega) rfl,c' 2 _ (by omega) (by omega) rfl,c' 3 _ (by omega) (by omega) rfl,c' 4 _ (by omega) (by omega) rfl,c' 5 _ (by omega) (by omega) rfl];exact p1
def jL(S:Fs):An:={dD with dev:=(S.ds.length:Int)+1,kind:=1,mode:=493,ak:=1}
theorem DA(S:Fs)(hn:eU S)(aB b n:Int) :
  {(((S.qA aB b n).add (jL S)).set {jL S with no:=S.last+1,up:=S.last+1}) with ds:=(S.qA aB b n).ds.set S.ds.length {(⟨0,aB,1,1,b,n⟩:Dv) with root:=S.last+1}}=S.aD aB b n:=by
 unfold Fs.aD Fs.set Fs.add Fs.qA;simp only[List.map_append,List.map_cons,List.map_nil];congr 1
 ·congr 1
  ·conv=>rhs;rw[←List.map_id S.ns]
   apply List.map_congr_left;intro x hx;have:=hn.low x hx;simp only[id_eq];rw[if_neg];simp;omega
  ·simp[jL]
 ·rw[List.set_append_right _ _ (aa _)];simp
theorem Am{S:Fs}(hn:eU S)(aB b n:Int):eU (S.qA aB b n):=⟨hn.dB,hn.low⟩
theorem Le(aB b n:Int)(hlim:ig b n=false)(w:World)(pw:Nat) :
  Calls Tryz.prog 123 #[UH (some ⟨pw,0,none⟩),UE UL aB,UE UL b,UE UL n] w fun e w'=>e=.returned (UE UL 3)∧UA w w':=by
 have DG:=Ux (fun w=>OZ b n hlim w);clear hlim;go_enter Tryz.func123,Tryz.ntmps123;go_wp2_with fail;refine(DG.o _).mono ?_;rintro e w1 ⟨rfl,av⟩;go_wp2_with fail;go_ret;exact⟨rfl,ao av _⟩
theorem zv(h:bB w pw R S)(hn:eU S)(fk:0≤S.last)(mT:S.last≤1000000)(hd:S.ds.length≤7)(aB b n:Int)(hlim:ig b n=true) :
  Calls Tryz.prog 123 #[UH (some ⟨pw,0,none⟩),UE UL aB,UE UL b,UE UL n] w fun e w'=>e=.returned (UE UL 0)∧∃R',bB w' pw R' (S.aD aB b n)∧aS (R.F pw) (R'.F pw) w w':=by
 have DG:=Ux (fun w=>LV b n hlim w);have hT:=fun w=>sm 0 0 b n 1 1 w;rw[Li b n hlim] at hT;have HT:=Ux hT;have ou:=Ux h;obtain⟨pc,-,pz⟩:=h.bD.facts;clear hlim hT h;go_enter Tryz.func123,Tryz.ntmps123;go_wp2_with fail;refine(DG.o _).mono ?_;rintro e w1 ⟨rfl,av⟩;go_wp2_with fail;refine(HT.o _).mono ?_;rintro e w2 ⟨rfl,aY⟩;have hB9:=Ar aY;have jb:=ar (ao av (.cells #[UE UL 0,UE UL 0,UE UL b,UE UL n] 192)) aY;have hle1:=av.size;have rF:=Ux hB9;obtain⟨qc,qf,qz⟩:=hB9.facts;have HX:=Ux (aC (v0:=UE UL 1) (v1:=UE UL 1) (v2:=UE UL b) (v3:=UE UL n) jb hle1);have rQ:=hB9.dA (v0:=UE UL 1) (v1:=UE UL 1) (v2:=UE UL b) (v3:=UE UL n);clear hB9 av aY;go_wp2_with fail;generalize World.setCell _ _ _=X at HX rQ⊢;clear qc qf qz;obtain⟨qc,qf,qz⟩:=rQ.facts;have hWX:=ou.o.an HX.o;have cl:UA X (X.alloc (.cells #[UE UL 0,UE UL aB,UE UL 1,UE UL 1,UE UL b,UE UL n] 194)).drew:=((Below.refl _ X).alloc (aa _) _).drew;obtain⟨g,cap,Y,hrun,KX,Mw,eT,QS⟩:=(hWX.an cl).app (by omega) ⟨X.heap.size,0,none⟩ aB b n (World.news_of_block ((ax.new X #[UE UL 0,UE UL aB,UE UL 1,UE UL 1,UE UL b,UE UL n] 194).drew));obtain⟨xc,-,xz⟩:=hWX.bD.facts;obtain⟨yc,yf,yz⟩:=eT.facts;have mixed:Tryz.prog.follows .mixedOrders=true:=by kernel_rfl
 have HWY:=Ux KX;have HSY:=Ux ((aS.aq (HX.o.trans (cl.mono HX.o.size))).trans Mw);obtain⟨da,dc,hdv,-,-,-⟩:=bQ ou.o.fJ;rw[hdv] at xc yc hrun;clear pc KX Mw hWX QS eT hdv;have vk:=Ux hrun;clear hrun;go_upto_region 5 with(fail)
 go_cut [] (fun wx=>wx=Y.setCell ⟨pw,1,none⟩ (.slice (some ⟨g,0,none⟩) (S.ds.length+1) cap))
 case first=>
  have hrun:=vk.o
  go_region_law_o (refine kZ rfl rfl rfl rfl hrun ?_)
  all_goals
   go_wp2_with fail;go_meet;rfl
 case rest=>
  subst hcut;generalize World.setCell _ _ _=Z at HWY HSY⊢;clear xc xz yc yf yz qc qf qz cl jb rF rQ vk;have Pz:=HWY.o;obtain⟨zc,zf,zz⟩:=Pz.bD.facts;obtain⟨m,hm⟩:∃m,S.ds.length=m:=⟨_,rfl⟩;have Hm:=Ux hm;obtain⟨S2,j7⟩:∃S2,(S.qA aB b n).add (jL S)=S2:=⟨_,rfl⟩;obtain⟨a5,G9⟩:∃a5:An,{jL S with no:=S.last+1}=a5:=⟨_,rfl⟩;obtain⟨a6,Mu⟩:∃a6:An,{jL S with no:=S.last+1,up:=S.last+1}=a6:=⟨_,rfl⟩;have HAdd:=Ux (show Calls Tryz.prog 150 #[UH (some ⟨R.pt,0,none⟩),UJ #[UE UL 0,UE UL ((m:Int)+1),UE UL 1,UE UL 493,UE UL 0,UE UL 0,UE UL 0,UE UL 0,UE UL 1,UE UL 0,UF ByteArray.empty,UG none 0 0]] Z fun e w'=>e=.returned (UE UL (S.last+1))∧∃R':Rp,bB w' pw R' S2∧aS (Rp.F {R with dv:=.slice (some ⟨g,0,none⟩) (S.ds.length+1) cap} pw) (R'.F pw) Z w'∧R'.pt=R.pt∧R'.dv=.slice (some ⟨g,0,none⟩) (S.ds.length+1) cap by
   rw[←hm,←j7];exact Pz.TB (jL S) (aA.nil Z) fk mT)
  have KF:=Ux (show S2.get (S.last+1)=some a5 by rw[←j7,←G9,gZ (Am hn aB b n)];exact if_pos rfl);have HV5:=Ux (fun(ea:Option Addr) (el ec:Nat)=>show a5.v ea el ec=UJ #[UE UL (S.last+1),UE UL ((m:Int)+1),UE UL 1,UE UL 493,UE UL 0,UE UL 0,UE UL 0,UE UL 0,UE UL 1,UE UL 0,UF ByteArray.empty,UG ea el ec] by rw[←G9,←hm];rfl);have HV6:=Ux (fun(ea:Option Addr) (el ec:Nat)=>show a6.v ea el ec=UJ #[UE UL (S.last+1),UE UL ((m:Int)+1),UE UL 1,UE UL 493,UE UL 0,UE UL 0,UE UL 0,UE UL 0,UE UL 1,UE UL (S.last+1),UF ByteArray.empty,UG ea el ec] by rw[←Mu,←hm];rfl);have Ur:=Ux (show a6.no=S.last+1∧a6.au=a5.au by rw[←Mu,←G9];exact⟨rfl,rfl⟩);have HEq:=Ux (show{(S2.set a6) with ds:=(S2.set a6).ds.set m {(⟨0,aB,1,1,b,n⟩:Dv) with root:=S.last+1}}=S.aD aB b n by rw[←j7,←Mu,←hm];exact DA S hn aB b n);have G3:=Ux (show(S2.set a6).ds[m]?=some ⟨0,aB,1,1,b,n⟩∧(S2.set a6).ds.length=m+1 by
   rw[←j7,←hm];exact⟨by show(S.ds++[_])[S.ds.length]?=_;rw[List.getElem?_append_right (aa _)];simp,by show(S.ds++[_]).length=_;simp⟩)
  rw[hm] at zc;clear Pz hm j7 G9 Mu;go_wp2_with fail;refine HAdd.o.mono ?_;rintro e w5 ⟨rfl,R5,ez,dw,gN,rp⟩;have rD:=Ux (ag ez (ag ((HSY.o).trans dw) rp));obtain⟨rc,-,rz⟩:=ez.bD.facts;rw[rp,Hm.o] at rc;obtain⟨ea,el,ec,hE,hG⟩:=oD ez KF.o;rw[HV5.o] at hG;have HG:=Ux hG;have HE:=Ux hE;clear ez dw gN rp hG hE zc zf zz;go_wp2_with fail;refine HG.o.mono ?_;rintro e w6 ⟨rfl,fp⟩;have rc0:w6.cell? ⟨pw,0,none⟩=_:=(fp.cell (p:=⟨pw,0,none⟩) rz).trans (rc 0);have hz6:=Nat.lt_of_lt_of_le rz fp.size;have jJ:=Ux (ao fp (.cells #[UE UL (S.last+1),UE UL ((m:Int)+1),UE UL 1,UE UL 493,UE UL 0,UE UL 0,UE UL 0,UE UL 0,UE UL 1,UE UL (S.last+1),UF ByteArray.empty,UG ea el ec] 149));have B7:=ax.new w6 #[UE UL (S.last+1),UE UL ((m:Int)+1),UE UL 1,UE UL 493,UE UL 0,UE UL 0,UE UL 0,UE UL 0,UE UL 1,UE UL (S.last+1),UF ByteArray.empty,UG ea el ec] 149;clear rc fp rz;go_wp2_with fail;have rc7:(w6.alloc (.cells #[UE UL (S.last+1),UE UL ((m:Int)+1),UE UL 1,UE UL 493,UE UL 0,UE UL 0,UE UL 0,UE UL 0,UE UL 1,UE UL (S.last+1),UF ByteArray.empty,UG ea el ec] 149)).cell? ⟨pw,0,none⟩=_:=(((UB w6).alloc (aa _) (.cells #[UE UL (S.last+1),UE UL ((m:Int)+1),UE UL 1,UE UL 493,UE UL 0,UE UL 0,UE UL 0,UE UL 0,UE UL 1,UE UL (S.last+1),UF ByteArray.empty,UG ea el ec] 149)).cell (p:=⟨pw,0,none⟩) hz6).trans rc0;generalize w6.alloc _=W7 at rc7 jJ B7⊢;generalize w6.heap.size=B6 at B7⊢;obtain⟨bc,-,bz⟩:=B7.facts;have SO:UA W7 W7.drew:=(Below.refl _ W7).drew;have Mp:=jJ.o.trans (SO.mono jJ.o.size);have PB:=(rD.o.1.an Mp).xr a6 (ea:=ea) (el:=el) (ec:=ec) (by rw[Ur.o.2];exact HE.o.an Mp) (b:=a5) (by rw[Ur.o.1];exact KF.o);rw[HV6.o] at PB;have ey:=Ux PB;clear PB rc0 hz6;refine aG 5 mixed (by kernel_rfl) eQ ?_;simp only[List.take_succ_cons,List.take_zero,List.drop_succ_cons,List.drop_zero]
  repeat still_step
  refine wpStill_nil ?_;go_wp2_with fail;refine ey.o.mono ?_;rintro e w8 ⟨rfl,R8,ez,dw,gN,rp⟩;have Jv:R8.dv=.slice (some ⟨g,0,none⟩) (m+1) cap:=by rw[rp,rD.o.2.2,Hm.o]
  have QJ:(S2.set a6).ds.length=m+1:=G3.o.2;have hk8:m<(S2.set a6).ds.length:=by omega
  have hv8:(S2.set a6).ds[m]=⟨0,aB,1,1,b,n⟩:=by
   have:=G3.o.1;rw[List.getElem?_eq_getElem hk8] at this;simpa using this
  obtain⟨g8,cap8,SN,hle8,h638,-,hc8,hf8,-⟩:=ez.lS (by omega);have e8:=SN.symm.trans Jv;injection e8 with e8 e9 e10;injection e8 with e8;injection e8 with e8;subst e8 e10;have c8:=(hc8 m hk8).c0;rw[hv8] at c8;obtain⟨rc,-,rz⟩:=ez.bD.facts;rw[Jv] at rc;obtain⟨hWF,hMF⟩:=ez.Lu (by rw[QJ];exact Jv) hk8 _ hv8 (S.last+1);have HF:=Ux (ag hWF (show aS (R.F pw) (R8.F pw) w _ from((rD.o.2.1.trans (aS.aq Mp)).trans dw).trans (aS.dH (hMF.mono (fun x hx=>.inr (.inr (.inr (by rw[Jv,hx];rfl))))))));rw[QJ] at hle8;clear ez dw gN rp Jv QJ hk8 hv8 hc8 hWF hMF SN e9 bc bz SO Mp rc7;have cl:(m:Int)<(m:Int)+1:=by omega
  have dM:(0:Int)≤(m:Int):=by omega
  go_wp2_with fail;go_ret;refine⟨rfl,R8,?_,HF.o.2⟩;rw[←HEq.o];exact HF.o.1
end
end
section
open Go.RowKit
section
variable{w w':World}{pw:Nat}{R:Rp}{S:Fs}
theorem IK{S:Fs}{N:Nat}(aB b n:Int):(S.aD aB b n).root ((S.ds.length:Int)+1)=S.last+1:=by
 unfold Fs.root Fs.aD;simp;omega
theorem J7(S:Fs)(aB b n:Int):(S.aD aB b n).ds.length=S.ds.length+1:=by unfold Fs.aD;simp
theorem rZ(h:bB w pw R S){N:Nat}(hk:ay S N)(hN:N≤1000000)(k b n:Int) :
  Calls Tryz.prog 85 #[UH (some ⟨pw,0,none⟩),UE UL k,UE UL b,UE UL n] w fun e w'=>e=.returned (UK #[UE UL (S.bR k b n).2.1,UE UL (S.bR k b n).2.2])∧∃R',bB w' pw R' (S.bR k b n).1∧aS (R.F pw) (R'.F pw) w w':=by
 have ou:=Ux h;have kO:=Ux (iy h hk.d1);obtain⟨pc,-,pz⟩:=h.bD.facts
 cases hg:S.get k with
 |none=>
  have HM:=Ux (show S.bR k b n=(S,0,5) by unfold Fs.bR;rw[hg]);have HG:=Ux (gD h hg);unfold An.v dD at HG;clear h hk hg;go_enter Tryz.func85,Tryz.ntmps85;go_wp2_with fail;refine kO.o.mono ?_;rintro e w1 ⟨rfl,rfl⟩;go_wp2_with fail;refine HG.o.mono ?_;rintro e w1 ⟨rfl,av⟩;go_wp2_with fail;go_ret2;rw[HM.o];exact⟨rfl,R,ou.o.an (ao av _),aS.aq (ao av _)⟩
 |some a=>
  obtain⟨hao,hno,gv,-⟩:=hk.get hg;obtain⟨ea,el,ec,-,hgc⟩:=oD h hg;have HG:=Ux hgc;unfold An.v at HG;by_cases hkd:a.kind=1
  ·have q1:(a.kind==1)=true:=by simpa using hkd
   have q2:(a.kind != 1)=false:=by simpa using hkd
   have pL:=Ux (fun w1 (av:UA w w1)=>jB (h.an av) hk.d1 k);have Hh:=Ux (fun w1 (av:UA w w1)=>fK (h.an av) hk.d1 a.dev);have Oo:=Ux (fun(hx:S.aB k≠k∨S.root a.dev=k)=>show S.bR k b n=(S,0,16) by unfold Fs.bR;rw[hg];simp only;rw[if_neg (by simpa using hkd),if_pos hx]);have Ri:=Ux (fun(hx:¬(S.aB k≠k∨S.root a.dev=k)) (hy:8≤S.ds.length∨ig b n=false)=>show S.bR k b n=(S,0,3) by unfold Fs.bR;rw[hg];simp only;rw[if_neg (by simpa using hkd),if_neg hx,if_pos hy]);have Ue:=Ux (fun(hx:¬(S.aB k≠k∨S.root a.dev=k)) (hy:¬(8≤S.ds.length∨ig b n=false))=>show S.bR k b n=(S.aD k b n,S.last+1,0) by unfold Fs.bR;rw[hg];simp only;rw[if_neg (by simpa using hkd),if_neg hx,if_neg hy]);have HK:=Ux hk;clear h hg hkd hao hno hgc;generalize S.aB k=ov at pL Oo Ri Ue;generalize S.root a.dev=rt at Hh Oo Ri Ue;obtain⟨g,cap,hdv,-,-,-,-,-,-⟩:=ou.o.lS hk.d1;rw[hdv] at pc;clear hk hdv;by_cases h1:ov=k
   ·by_cases h2:rt=k
    ·have HM:=Ux (Oo.o (.inr h2));have q3:(ov != k)=false:=by simpa using h1
     have q4:(rt==k)=true:=by simpa using h2
     clear h1 h2;go_enter Tryz.func85,Tryz.ntmps85;go_wp2_with fail;refine kO.o.mono ?_;rintro e w1 ⟨rfl,rfl⟩;go_wp2_with fail;refine HG.o.mono ?_;rintro e w1 ⟨rfl,av⟩;have aY:=ao av (.cells #[UE UL a.no,UE UL a.dev,UE UL a.kind,UE UL a.mode,UE UL a.uid,UE UL a.gid,UE UL a.mtime,UE UL a.ctime,UE UL a.ak,UE UL a.up,UF a.data,UG ea el ec] 149);have B1:=ax.new w1 #[UE UL a.no,UE UL a.dev,UE UL a.kind,UE UL a.mode,UE UL a.uid,UE UL a.gid,UE UL a.mtime,UE UL a.ctime,UE UL a.ak,UE UL a.up,UF a.data,UG ea el ec] 149;go_wp2_with fail;refine(pL.o _ aY).mono ?_;rintro e w2 ⟨rfl,cl⟩;obtain⟨bc,-,-⟩:=(B1.an cl).facts;have dM:=ar aY cl;go_wp2_with fail;refine(Hh.o _ dM).mono ?_;rintro e w3 ⟨rfl,rfl⟩;go_wp2_with fail;go_ret2;rw[HM.o];exact⟨rfl,R,ou.o.an dM,aS.aq dM⟩
    ·have hx:¬(ov≠k∨rt=k):=by rintro(h|h);exact h h1;exact h2 h
     have q3:(ov != k)=false:=by simpa using h1
     have q4:(rt==k)=false:=by simpa using h2
     have Ri:=Ux (Ri.o hx);have Ue:=Ux (Ue.o hx);clear h1 h2 hx;go_enter Tryz.func85,Tryz.ntmps85;go_wp2_with fail;refine kO.o.mono ?_;rintro e w1 ⟨rfl,rfl⟩;go_wp2_with fail;refine HG.o.mono ?_;rintro e w1 ⟨rfl,av⟩;have aY:=ao av (.cells #[UE UL a.no,UE UL a.dev,UE UL a.kind,UE UL a.mode,UE UL a.uid,UE UL a.gid,UE UL a.mtime,UE UL a.ctime,UE UL a.ak,UE UL a.up,UF a.data,UG ea el ec] 149);have B1:=ax.new w1 #[UE UL a.no,UE UL a.dev,UE UL a.kind,UE UL a.mode,UE UL a.uid,UE UL a.gid,UE UL a.mtime,UE UL a.ctime,UE UL a.ak,UE UL a.up,UF a.data,UG ea el ec] 149;go_wp2_with fail;refine(pL.o _ aY).mono ?_;rintro e w2 ⟨rfl,cl⟩;obtain⟨bc,-,-⟩:=(B1.an cl).facts;have dM:=ar aY cl;go_wp2_with fail;refine(Hh.o _ dM).mono ?_;rintro e w3 ⟨rfl,rfl⟩;have uF:=Ux dM;have pc1:w2.cell? ⟨pw,1,none⟩=_:=(dM.cell (p:=⟨pw,1,none⟩) pz).trans (pc 1);have BC:=Ux (ou.o.an dM);clear pc B1 bc av aY cl dM;by_cases h8:8≤S.ds.length
     ·have HM:=Ux (Ri.o (.inl h8));have QZ:(8:Int)≤(S.ds.length:Int):=by omega
      generalize S.ds.length=m at pc1 QZ;clear h8;go_wp2_with fail;go_ret2;rw[HM.o];exact⟨rfl,R,BC.o,aS.aq uF.o⟩
     ·have QZ:¬(8:Int)≤(S.ds.length:Int):=by omega
      by_cases hlim:ig b n=true
      ·have HM:=Ux (Ue.o (by rintro(h|h);exact h8 h;rw[hlim] at h;cases h));have Ry:=Ux (zv BC.o HK.o.nums HK.o.l0 (by have:=HK.o.lN;omega) (by omega) k b n hlim);have Nv:=Ux (IK (S:=S) (N:=0) k b n);have HDn:=Ux (J7 S k b n);have HDp:=Ux (show 0<(S.aD k b n).ds.length by rw[J7];omega);generalize S.aD k b n=S' at HM Ry Nv HDn HDp;generalize S.ds.length=m at pc1 QZ Nv HDn;clear h8;go_wp2_with fail;refine Ry.o.mono ?_;rintro e w4 ⟨rfl,R',ez,dw⟩;have HR:=Ux (ag ez ((aS.aq uF.o).trans dw));have hrt:=fK ez HDp.o ((m:Int)+1);rw[Nv.o] at hrt;have HRT:=Ux hrt;obtain⟨g',cap',hdv',-,-,-,-,-,-⟩:=ez.lS HDp.o;obtain⟨rc,-,-⟩:=ez.bD.facts;rw[hdv',HDn.o] at rc;clear ez dw hrt hdv';go_wp2_with fail;refine HRT.o.mono ?_;rintro e w5 ⟨rfl,rfl⟩;go_wp2_with fail;go_ret2;rw[HM.o];exact⟨rfl,R',HR.o.1,HR.o.2⟩
      ·have hlim':ig b n=false:=by simpa using hlim
       have HM:=Ux (Ri.o (.inr hlim'));have Ry:=Ux (Le k b n hlim' w2 pw);generalize S.ds.length=m at pc1 QZ;clear h8 hlim hlim';go_wp2_with fail;refine Ry.o.mono ?_;rintro e w4 ⟨rfl,cK⟩;have oC:=Ux cK;clear cK;go_wp2_with fail;go_ret2;rw[HM.o];exact⟨rfl,R,BC.o.an oC.o,aS.aq (ar uF.o oC.o)⟩
   ·have HM:=Ux (Oo.o (.inl h1));have q3:(ov != k)=true:=by simpa using h1
    clear h1;go_enter Tryz.func85,Tryz.ntmps85;go_wp2_with fail;refine kO.o.mono ?_;rintro e w1 ⟨rfl,rfl⟩;go_wp2_with fail;refine HG.o.mono ?_;rintro e w1 ⟨rfl,av⟩;have aY:=ao av (.cells #[UE UL a.no,UE UL a.dev,UE UL a.kind,UE UL a.mode,UE UL a.uid,UE UL a.gid,UE UL a.mtime,UE UL a.ctime,UE UL a.ak,UE UL a.up,UF a.data,UG ea el ec] 149);go_wp2_with fail;refine(pL.o _ aY).mono ?_;rintro e w2 ⟨rfl,cl⟩;have dM:=ar aY cl;go_wp2_with fail;go_ret2;rw[HM.o];exact⟨rfl,R,ou.o.an dM,aS.aq dM⟩
  ·have q1:(a.kind != 1)=true:=by simpa using hkd
   have HM:=Ux (show S.bR k b n=(S,0,9) by unfold Fs.bR;rw[hg];simp only;rw[if_pos hkd]);clear h hk hg hkd hao hno hgc;go_enter Tryz.func85,Tryz.ntmps85;go_wp2_with fail;refine kO.o.mono ?_;rintro e w1 ⟨rfl,rfl⟩;go_wp2_with fail;refine HG.o.mono ?_;rintro e w1 ⟨rfl,av⟩;go_wp2_with fail;go_ret2;rw[HM.o];exact⟨rfl,R,ou.o.an (ao av _),aS.aq (ao av _)⟩
theorem Ia(b n:Int)(hlim:ig b n=true)(w:World) :
  Calls Tryz.prog 83 #[UE UL b,UE UL n] w fun e w'=>∃pw R,e=.returned (UK #[UH (some ⟨pw,0,none⟩),UE UL 0])∧bB w' pw R (qh.aD 0 b n)∧UA w w'∧∀k,R.F pw k→w.heap.size≤k:=by
 have HN:=Ux (FO w);go_enter Tryz.func83,Tryz.ntmps83;go_wp2_with fail;refine HN.o.mono ?_;rintro e w1 ⟨rfl,hT,av⟩;have aY:=ao av (.cells #[UH (some ⟨w.heap.size+1,0,none⟩),UG none 0 0] 46);have hW:bB (w1.alloc (.cells #[UH (some ⟨w.heap.size+1,0,none⟩),UG none 0 0] 46)) w1.heap.size ⟨w.heap.size+1,w.heap.size,UG none 0 0,[],0⟩ qh:=
  ⟨ax.new _ _ _,hT.an ((Below.refl _ _).alloc (aa _) _),World.ownsRow_nil _ _ _ _,rfl,fun g hg=>by cases hg⟩
 have hF:∀k,Rp.F ⟨w.heap.size+1,w.heap.size,UG none 0 0,[],0⟩ w1.heap.size k→w.heap.size≤k:=by
  rintro k (hk|hk|hk|hk)
  ·have:=av.size;omega
  ·simp only at hk;omega
  ·simp only at hk;omega
  ·cases hk
 have Ry:=Ux (zv hW ⟨List.Pairwise.nil,fun x hx=>by cases hx⟩ (by decide) (by decide) (by decide) 0 b n hlim);have HF:=Ux hF;have ei:=Ux aY;clear hT av aY hW hF;go_wp2_with fail;refine Ry.o.mono ?_;rintro e w4 ⟨rfl,R',ez,dw⟩;have HR:=Ux (ag ez dw);clear ez dw;go_wp2_with fail;go_ret2;exact⟨_,R',rfl,HR.o.1,ei.o.trans (HR.o.2.below HF.o ei.o.size),HR.o.2.bl HF.o ei.o.size⟩
end
end
end Go.Proofs.YtabbjaomlmnnhaaGreat
