import Derived.Deep.CutBlock
import Derived.Deep.DeepCutAuto
import Derived.RegionTactic
import Derived.BigRegion
import Derived.Test.YtinflmadpnigfaaGreatDoorDY4
set_option linter.unusedVariables false
set_option linter.unusedSimpArgs false
set_option maxRecDepth 100000
set_option maxHeartbeats 16000000
namespace Go.Proofs.YtinflmadpnigfaaGreatDoor
section
open Go.RowKit
section
variable{w w':World}{pw:Nat}{R:Rp}{S:Fs}
theorem QD(h:bh w pw R S){k:Int}{a:An}(hg:S.get k=some a):∃g∈R.G,g.a=a∧lu (R.G.map Gn.e) k=some g.nd∧aA w g.ea g.el g.ec a.aB:=by
 rw[Oy h] at hg
 cases hf:R.G.find? (fun g=>g.a.no==k) with
 |none=>rw[hf] at hg;cases hg
 |some g=>
  rw[hf] at hg;simp only[Option.map_some,Option.some.injEq] at hg;have hm:=List.mem_of_find?_eq_some hf;refine⟨g,hm,hg,?_,?_⟩
  ·rw[Bw,hf];rfl
  ·rw[←hg];exact h.aB g hm
theorem G_no(h:bh w pw R S){k:Int}(hg:S.get k=none):lu (R.G.map Gn.e) k=none:=by
 rw[Oy h] at hg;rw[Bw]
 cases hf:R.G.find? (fun g=>g.a.no==k) with
 |none=>rfl
 |some g=>rw[hf] at hg;cases hg
theorem o7(h:bh w pw R S){k:Int}{a:An}(hg:S.get k=some a):∃ea el ec,aA w ea el ec a.aB∧
  Calls Tryz.prog 106 #[.pointer (some ⟨R.pt,0,none⟩),.int .i64 k] w fun e w'=>e=.returned (.tuple #[a.v ea el ec,.bool true])∧Up w w':=by
 obtain⟨g,-,rfl,hf,he⟩:=QD h hg;exact⟨g.ea,g.el,g.ec,he,yI g.nd k w R.pt R.pm S.last _ R.ga h.tab hf⟩
theorem fN(h:bh w pw R S){k:Int}(hg:S.get k=none) :
  Calls Tryz.prog 106 #[.pointer (some ⟨R.pt,0,none⟩),.int .i64 k] w fun e w'=>e=.returned (.tuple #[dh.v none 0 0,.bool false])∧Up w w':=
 P5 k w R.pt R.pm S.last _ R.ga h.tab (G_no h hg)
theorem Eo(S:Fs)(k:Int)(hk:0<k)(i:Nat)(hi:i<S.ds.length)(h1:∀j (hj:j<S.ds.length),j<i→S.ds[j].over≠k)(h2:S.ds[i].over=k):S.over k=S.ds[i].root:=by
 unfold Fs.over;rw[if_pos hk];have:S.ds.find? (fun d=>d.over==k)=some S.ds[i]:=by
  rw[List.find?_eq_some_iff_getElem];exact⟨by simpa using h2,i,hi,rfl,fun j hj=>by simpa using h1 j (by omega) hj⟩
 rw[this]
theorem wJ(S:Fs)(k:Int)(h1:∀j (hj:j<S.ds.length),S.ds[j].over≠k):S.over k=k:=by
 unfold Fs.over
 split
 ·have:S.ds.find? (fun d=>d.over==k)=none:=by
   rw[List.find?_eq_none];intro d hd;obtain⟨j,hj,rfl⟩:=List.mem_iff_getElem.1 hd;simpa using h1 j hj
  rw[this]
 ·rfl
theorem mX(h:bh w pw R S)(hd:0<S.ds.length)(no:Int) :
  Calls Tryz.prog 122 #[.pointer (some ⟨pw,0,none⟩),.int .i64 no] w fun e w'=>e=.returned (.int .i64 (S.over no))∧Up w w':=by
 have HN:=Um (gD h hd);obtain⟨g,cap,hv,hle,sI,hg,hc,-,-⟩:=h.jm hd;obtain⟨pc,-,-⟩:=h.bd.facts;rw[hv] at pc;have HC:=Um hc;clear h hv hc;by_cases h0:0<no
 ·have o5:=Um (Eo S no h0);have l8:=Um (wJ S no);obtain⟨n,hn⟩:∃n,S.ds.length=n:=⟨_,rfl⟩;have H':=Um hn;rw[hn] at pc hle hd;generalize S.over no=out at o5 l8⊢;clear hn;go_enter Tryz.func122,Tryz.ntmps122;go_wp2_with fail;refine HN.o.mono ?_;rintro e w1 ⟨rfl,rfl⟩;go_wp2_with fail
  go_loopw [19] (fun i wr=>∃k:Nat,k≤n∧i=.int .i64 k∧(∀j (hj:j<S.ds.length),j<k→S.ds[j].over≠no)∧Up w wr) (fun i _=>n-(intOf i).toNat)
  case atStart=>exact⟨0,Nat.zero_le _,rfl,fun j _ h=>absurd h (Nat.not_lt_zero _),Below.refl _ _⟩
  case round=>
   obtain⟨k,hk,rfl,hno,hB⟩:=hrel;have fL:=Um hno;have HB:=Um hB;clear hno hB;by_cases hlt:k<n
   ·have hkl:k<S.ds.length:=by rw[H'.o];exact hlt
    obtain⟨c0,c1,c2,c3,c4,c5⟩:=HC.o k hkl;rw[←HB.o.cell (p:=⟨g,k*6,none⟩) hg] at c0;rw[←HB.o.cell (p:=⟨g,k*6+1,none⟩) hg] at c1;rw[←HB.o.cell (p:=⟨g,k*6+2,none⟩) hg] at c2;rw[←HB.o.cell (p:=⟨g,k*6+3,none⟩) hg] at c3;rw[←HB.o.cell (p:=⟨g,k*6+4,none⟩) hg] at c4;rw[←HB.o.cell (p:=⟨g,k*6+5,none⟩) hg] at c5;by_cases hov:S.ds[k].over=no
    ·have HE:=Um (o5.o k hkl fL.o hov);have hq:(S.ds[k].over==no)=true:=by simpa using hov
     clear hov;generalize S.ds[k]=v at c0 c1 c2 c3 c4 c5 hq HE;go_wp2_with fail;go_ret;exact⟨by rw[HE.o];rfl,al HB.o _⟩
    ·have hq:(S.ds[k].over==no)=false:=by simpa using hov
     have D8:=Um (show∀j (hj:j<S.ds.length),j<k+1→S.ds[j].over≠no from fun j hj hjk=>by
      by_cases e:j=k
      ·subst e;exact hov
      ·exact fL.o j hj (by omega))
     clear hov;generalize S.ds[k]=v at c0 c1 c2 c3 c4 c5 hq;go_wp2_with fail;go_roundw
     case rel=>exact⟨k+1,by omega,by go_num,D8.o,al HB.o _⟩
     case measure=>simp[intOf];omega
   ·obtain rfl:k=n:=by omega
    have HE:=Um (l8.o (fun j hj=>fL.o j hj (by rw[←H'.o];exact hj)));go_wp2_with fail;go_ret;exact⟨by rw[HE.o];rfl,HB.o⟩
 ·have hO:S.over no=no:=by unfold Fs.over;rw[if_neg h0]
  rw[hO];generalize S.ds.length=n at pc hle hd;go_enter Tryz.func122,Tryz.ntmps122;go_wp2_with fail;refine HN.o.mono ?_;rintro e w1 ⟨rfl,rfl⟩;go_wp2_with fail;go_ret;exact⟨rfl,Below.refl _ _⟩
theorem kG(h:bh w pw R S){N:Nat}(hk:av S N)(no:Int) :
  Calls Tryz.prog 135 #[.pointer (some ⟨pw,0,none⟩),.int .i64 no] w fun e w'=>e=.returned (.int .i64 (S.aQ no))∧Up w w':=by
 have HW:=Um h;have HK:=Um hk;have HN:=Um (gD h hk.d1);obtain⟨pc,-,-⟩:=h.bd.facts;have mixed:Tryz.prog.follows .mixedOrders=true:=by kernel_rfl
 cases hg:S.get no with
 |none=>
  have HA:=Um (show S.aQ no=0 by unfold Fs.aQ;rw[hg]);have HG:=Um (fN h hg);unfold An.v dh at HG;clear h hk hg;go_enter Tryz.func135,Tryz.ntmps135;go_wp2_with fail;refine HN.o.mono ?_;rintro e w1 ⟨rfl,rfl⟩;go_wp2_with fail;refine HG.o.mono ?_;rintro e w1 ⟨rfl,ar⟩;go_wp2_with fail;go_ret;exact⟨by rw[HA.o];rfl,al ar _⟩
 |some a=>
  obtain⟨hao,-,h1,-⟩:=hk.get hg;obtain⟨ea,el,ec,-,hgc⟩:=o7 h hg;have HG:=Um hgc;unfold An.v at HG;by_cases hkd:a.kind=1
  ·by_cases hr:S.root a.dev=no∧1<a.dev
   ·obtain⟨v,hv,hrv,-,-⟩:=kO hk hao.dev.1 hao.dev.2;obtain⟨g,cap,hdv,hle,sI,hgl,hc,-,-⟩:=h.jm hk.d1;rw[hdv] at pc;obtain⟨k,Pt⟩:∃k:Nat,a.dev=(k:Int)+1:=⟨(a.dev-1).toNat,by have:=hao.dev.1;omega⟩;have hkl:k<S.ds.length:=by have:=hao.dev.2;omega
    have hvk:S.ds[k]=v:=by
     unfold Fs.dev at hv;rw[if_pos (by omega),Pt,show((k:Int)+1-1).toNat=k by omega,List.getElem?_eq_getElem hkl] at hv;simpa using hv
    have cc:=(hc k hkl).c1;rw[hvk] at cc;have hrt:S.root a.dev=no:=hr.1;have HR:=Um (fun w1 (ar:Up w w1)=>fM (h.ak ar) hk.d1 a.dev);rw[hrt] at HR;have HA:=Um (show S.aQ no=(match S.get v.over with|none=>0|some b=>b.up) by
     unfold Fs.aQ;rw[hg];simp only;rw[if_neg (by simpa using hkd),if_pos hr,hv];rfl)
    have h3:1<a.dev:=hr.2;have hgd:=hao.dev.1;have hpz:=h.bd.lt;rw[Pt] at h3 HG HR;obtain⟨n,hn⟩:∃n,S.ds.length=n:=⟨_,rfl⟩;rw[hn] at pc hle;have hkn:k<n:=by omega
    have gP:(a.kind==1)=true:=by simpa using hkd
    have ig:(a.kind != 1)=false:=by simpa using hkd
    have HD:=Um (fun w1 (ar:Up w w1)=>ag (fun(hgv:S.get v.over=none)=>fN (h.ak ar) hgv) (fun b (hgv:S.get v.over=some b)=>o7 (h.ak ar) hgv));clear h hk hg hao hgc hc hv hrv hr hrt hdv hvk hn Pt hgd hkl hkd;go_enter Tryz.func135,Tryz.ntmps135;go_wp2_with fail;refine HN.o.mono ?_;rintro e w1 ⟨rfl,rfl⟩;go_wp2_with fail;refine HG.o.mono ?_;rintro e w1 ⟨rfl,ar⟩;have B1:=au.new w1 #[.int .i64 a.no,.int .i64 ((k:Int)+1),.int .i64 a.kind,.int .i64 a.mode,.int .i64 a.uid,.int .i64 a.gid,.int .i64 a.mtime,.int .i64 a.ctime,.int .i64 a.an,.int .i64 a.up,.string a.data,.slice ea el ec] 99;have aD:=al ar (.cells #[.int .i64 a.no,.int .i64 ((k:Int)+1),.int .i64 a.kind,.int .i64 a.mode,.int .i64 a.uid,.int .i64 a.gid,.int .i64 a.mtime,.int .i64 a.ctime,.int .i64 a.an,.int .i64 a.up,.string a.data,.slice ea el ec] 99);have Cc:=HR.o _ aD;go_wp2_with fail;refine Cc.mono ?_;rintro e w2 ⟨rfl,rfl⟩;generalize w1.alloc _=W at B1 aD Cc⊢;have vE:=ar.size;generalize w1.heap.size=Bn at B1 vE⊢;obtain⟨bc,bf,bz⟩:=B1.facts;rw[←aD.cell (p:=⟨g,k*6+1,none⟩) hgl] at cc;have Rh:=Um (aD.cell (p:=⟨pw,0,none⟩) hpz);have pc0:W.cell? ⟨pw,0,none⟩=_:=(aD.cell (p:=⟨pw,0,none⟩) hpz).trans (pc 0);have pc1:W.cell? ⟨pw,1,none⟩=_:=(aD.cell (p:=⟨pw,1,none⟩) hpz).trans (pc 1);go_wp2_with fail;have pO:IntKind.i64.wrap ((k:Int)+1-1)=(k:Int):=by rw[IntKind.wrap_i64];omega
    have Ih:IntKind.i64.wrap (k:Int)=(k:Int):=by rw[IntKind.wrap_i64];omega
    have bJ:(k:Int)<(n:Int):=by omega
    have dI:(0:Int)≤(k:Int):=by omega
    refine ay 14 mixed (by kernel_rfl) dQ ?_;simp only[List.take_succ_cons,List.take_zero,List.drop_succ_cons,List.drop_zero]
    repeat still_step
    refine wpStill_nil ?_
    cases hgv:S.get v.over with
    |none=>
     rw[hgv] at HA;have HC:=Um (((HD.o W.drew aD.drew).1 hgv));unfold An.v dh at HC;clear hgv HD;go_wp2_with fail;refine HC.o.mono ?_;rintro e w2 ⟨rfl,bJ⟩;obtain⟨bc3,bf3,bz3⟩:=(B1.drew.ak bJ).facts;have dI:=ao aD.drew bJ;go_wp2_with fail;go_ret;exact⟨by rw[HA.o];rfl,by(repeat (refine Below.setCell ?_ vE _));exact dI⟩
    |some b=>
     rw[hgv] at HA;obtain⟨ea2,el2,ec2,-,GH⟩:=(HD.o W.drew aD.drew).2 b hgv;have HC:=Um GH;unfold An.v at HC;clear hgv HD GH;go_wp2_with fail;refine HC.o.mono ?_;rintro e w2 ⟨rfl,bJ⟩;obtain⟨bc3,bf3,bz3⟩:=(B1.drew.ak bJ).facts;have dI:=ao aD.drew bJ;go_wp2_with fail;go_ret;exact⟨by rw[HA.o];rfl,by(repeat (refine Below.setCell ?_ vE _));exact dI⟩
   ·have HA:=Um (show S.aQ no=a.up by unfold Fs.aQ;rw[hg];simp only;rw[if_neg (by simpa using hkd),if_neg hr]);have HR:=Um (fun w1 (ar:Up w w1)=>fM (h.ak ar) hk.d1 a.dev);have gP:(a.kind==1)=true:=by simpa using hkd
    have ig:(a.kind != 1)=false:=by simpa using hkd
    clear h hk hg hao hgc hkd;obtain⟨rt,hrt⟩:∃rt,S.root a.dev=rt:=⟨_,rfl⟩;rw[hrt] at HR hr;by_cases h2:rt=no
    ·have h3:¬1<a.dev:=fun h3=>hr ⟨h2,h3⟩;have h4:(rt==no)=true:=by simpa using h2
     clear hr h2 hrt;go_enter Tryz.func135,Tryz.ntmps135;go_wp2_with fail;refine HN.o.mono ?_;rintro e w1 ⟨rfl,rfl⟩;go_wp2_with fail;refine HG.o.mono ?_;rintro e w1 ⟨rfl,ar⟩;have Cc:=HR.o _ (al ar (.cells #[.int .i64 a.no,.int .i64 a.dev,.int .i64 a.kind,.int .i64 a.mode,.int .i64 a.uid,.int .i64 a.gid,.int .i64 a.mtime,.int .i64 a.ctime,.int .i64 a.an,.int .i64 a.up,.string a.data,.slice ea el ec] 99));go_wp2_with fail;refine Cc.mono ?_;rintro e w2 ⟨rfl,rfl⟩;go_wp2_with fail;go_ret;exact⟨by rw[HA.o];rfl,al ar _⟩
    ·have h4:(rt==no)=false:=by simpa using h2
     clear hr h2 hrt;go_enter Tryz.func135,Tryz.ntmps135;go_wp2_with fail;refine HN.o.mono ?_;rintro e w1 ⟨rfl,rfl⟩;go_wp2_with fail;refine HG.o.mono ?_;rintro e w1 ⟨rfl,ar⟩;have Cc:=HR.o _ (al ar (.cells #[.int .i64 a.no,.int .i64 a.dev,.int .i64 a.kind,.int .i64 a.mode,.int .i64 a.uid,.int .i64 a.gid,.int .i64 a.mtime,.int .i64 a.ctime,.int .i64 a.an,.int .i64 a.up,.string a.data,.slice ea el ec] 99));go_wp2_with fail;refine Cc.mono ?_;rintro e w2 ⟨rfl,rfl⟩;go_wp2_with fail;go_ret;exact⟨by rw[HA.o];rfl,al ar _⟩
  ·have HA:=Um (show S.aQ no=0 by unfold Fs.aQ;rw[hg];simp only;rw[if_pos hkd]);clear h hk hg hao hgc;go_enter Tryz.func135,Tryz.ntmps135;go_wp2_with fail;refine HN.o.mono ?_;rintro e w1 ⟨rfl,rfl⟩;go_wp2_with fail;refine HG.o.mono ?_;rintro e w1 ⟨rfl,ar⟩;go_wp2_with fail;go_ret;exact⟨by rw[HA.o];rfl,al ar _⟩
end
end
section
open Go.RowKit
theorem fQ{w:World}{base sz n g cap:Nat}{e:TypeId}{xs:List Value}(h:w.ownsRow base e sz (.slice (some ⟨g,0,none⟩) n cap) n xs)(j:Nat)(hj:j<xs.length)(v:Value) :
  (w.setCell ⟨g,j,none⟩ v).ownsRow base e sz (.slice (some ⟨g,0,none⟩) n cap) n (xs.set j v):=by
 rcases h.2 with⟨hv,-⟩|⟨g',cap',cur,hv,hb,hg,h1,h2,h3,h4⟩
 ·cases hv
 ·injection hv with e1 e2 e3;injection e1 with e1;injection e1 with e1;subst e1 e3;refine⟨by rw[List.length_set];exact h.1,.inr ⟨g,cap,_,rfl,hb,au.set hg j v,h1,h2,by rw[Array.size_setIfInBounds];exact h3,?_⟩⟩;rw[Array.toList_setIfInBounds,List.take_set,h4]
section
variable{w w':World}{pw:Nat}{R:Rp}{S:Fs}
theorem qS(ds:List Dv):(ds.flatMap Dv.cs).length=ds.length*6:=bC Dv.bt ds
theorem bh.IW(h:bh w pw R S){g cap:Nat}(hdv:R.dv=.slice (some ⟨g,0,none⟩) S.ds.length cap){k:Nat}(hk:k<S.ds.length)(v:Dv)(hv:S.ds[k]=v)(b n:Int) :
  bh ((((w.setCell ⟨g,k*6+2,none⟩ (.int .i64 b)).setCell ⟨g,k*6+3,none⟩ (.int .i64 n)).setCell ⟨g,k*6+4,none⟩ (.int .i64 v.mb)).setCell ⟨g,k*6+5,none⟩ (.int .i64 v.mn)) pw R
   (S.aR ((k:Int)+1) {v with b:=b,n:=n})∧
  Mod (fun x=>x=g) w ((((w.setCell ⟨g,k*6+2,none⟩ (.int .i64 b)).setCell ⟨g,k*6+3,none⟩ (.int .i64 n)).setCell ⟨g,k*6+4,none⟩ (.int .i64 v.mb)).setCell ⟨g,k*6+5,none⟩ (.int .i64 v.mn)):=by
 have hm:Mod (fun x=>x=g) w ((((w.setCell ⟨g,k*6+2,none⟩ (.int .i64 b)).setCell ⟨g,k*6+3,none⟩ (.int .i64 n)).setCell ⟨g,k*6+4,none⟩ (.int .i64 v.mb)).setCell ⟨g,k*6+5,none⟩ (.int .i64 v.mn)):=
  ((((Mod.refl (fun x=>x=g) w).setCell (a:=⟨g,k*6+2,none⟩) (.inl rfl) _).setCell (a:=⟨g,k*6+3,none⟩) (.inl rfl) _).setCell (a:=⟨g,k*6+4,none⟩) (.inl rfl) _).setCell (a:=⟨g,k*6+5,none⟩) (.inl rfl) _
 refine⟨?_,hm⟩;obtain⟨g',cap',hdv',-,-,-,-,-,cur,hcur⟩:=h.jm (by omega);have e:=hdv.symm.trans hdv';injection e with e;injection e with e;injection e with e;subst e;have hne:∀(x:Nat) (vs:Array Value) (T:TypeId),au w x vs T→T≠249→x≠g:=by
  rintro x vs T hx hT rfl;unfold au at hx hcur;rw[hcur] at hx;injection hx with hx;injection hx with _ hx;exact hT hx.symm
 have h1:=hne _ _ _ h.bd (by decide);have h2:=hne _ _ _ h.tab.bd (by decide);have h3:R.pm≠g:=by
  rintro e;have hm:=h.tab.map;unfold ep at hm;rw[e] at hm;unfold au at hcur;rw[hcur] at hm
  cases hm
 have hl:(S.aR ((k:Int)+1) {v with b:=b,n:=n}).ds=S.ds.set k {v with b:=b,n:=n}:=by
  unfold Fs.aR;rw[show((k:Int)+1-1).toNat=k by omega]
 refine⟨h.bd.mod hm h1,⟨h.tab.bd.mod hm h2,(hm.block _ h.tab.map.lt h3).trans h.tab.map,h.tab.once,h.tab.low⟩,?_,h.ns,fun x hx=>(h.aB x hx).eB (fun bk cr hc=>hm.block bk (Array.getElem?_eq_some_iff.1 hc).1 (hne bk cr _ hc (by decide))) hm.size⟩;rw[hl,List.length_set];have h0:=h.eI;rw[hdv] at h0⊢;have hkl:k*6+5<(S.ds.flatMap Dv.cs).length:=by rw[qS];omega
 have p1:=fQ h0 (k*6+2) (by omega) (.int .i64 b);have p2:=fQ p1 (k*6+3) (by rw[List.length_set];omega) (.int .i64 n);have p3:=fQ p2 (k*6+4) (by rw[List.length_set,List.length_set];omega) (.int .i64 v.mb);have p4:=fQ p3 (k*6+5) (by rw[List.length_set,List.length_set,List.length_set];omega) (.int .i64 v.mn);have hs:=fB Dv.bt ({v with b:=b,n:=n}:Dv) S.ds k hk;rw[←hs];have c0:(S.ds.flatMap Dv.cs)[k*6]?=some (.int .i64 v.root):=by
  have:=fH Dv.bt S.ds k 0 hk (by omega);rw[Nat.add_zero] at this;rw[this,hv];rfl
 have c1:(S.ds.flatMap Dv.cs)[k*6+1]?=some (.int .i64 v.over):=by
  rw[fH Dv.bt S.ds k 1 hk (by omega),hv];rfl
 have e0:(S.ds.flatMap Dv.cs).set (k*6) (.int .i64 v.root)=S.ds.flatMap Dv.cs:=by
  have hlt:k*6<(S.ds.flatMap Dv.cs).length:=by omega
  rw[List.getElem?_eq_getElem hlt] at c0;injection c0 with c0;rw[←c0,List.set_getElem_self]
 have e1:(S.ds.flatMap Dv.cs).set (k*6+1) (.int .i64 v.over)=S.ds.flatMap Dv.cs:=by
  have hlt:k*6+1<(S.ds.flatMap Dv.cs).length:=by omega
  rw[List.getElem?_eq_getElem hlt] at c1;injection c1 with c1;rw[←c1,List.set_getElem_self]
 show World.ownsRow _ 0 249 6 _ _ ((((((((S.ds.flatMap Dv.cs).set (k*6) (.int .i64 v.root)).set (k*6+1) (.int .i64 v.over)).set (k*6+2) (.int .i64 b)).set (k*6+3) (.int .i64 n)).set (k*6+4) (.int .i64 v.mb)).set (k*6+5) (.int .i64 v.mn)));rw[e0,e1];exact p4
theorem bh.Tz(h:bh w pw R S)(a:An){ea:Option Addr}{el ec:Nat}(he:aA w ea el ec a.aB)(dL:0≤S.last)(qk:S.last≤1000000) :
  Calls Tryz.prog 222 #[.pointer (some ⟨R.pt,0,none⟩),a.v ea el ec] w fun e w'=>e=.returned (.int .i64 (S.last+1))∧∃R',bh w' pw R' (S.add a)∧aL (R.F pw) (R'.F pw) w w'∧R'.pt=R.pt∧R'.dv=R.dv:=by
 refine(NS (a.nd ea el ec) w R.pt R.pm S.last _ R.ga h.tab dL qk).mono ?_;rintro e w' ⟨rfl,hT,hM⟩;have hM':Mod (R.F pw) w w':=hM.mono (fun k hk=>hk.elim (fun e=>.inr (.inl e)) (fun e=>.inr (.inr (.inl e))));have hst:aL (R.F pw) (R.F pw) w w':=aL.dH hM';have hnw:pw≠R.pt:=by
  intro e;have h1:=h.bd;have h2:=h.tab.bd;rw[e] at h1;unfold au at h1 h2;rw[h1] at h2;injection h2 with h2;injection h2 with _ h2;revert h2;decide
 have hnm:pw≠R.pm:=by
  intro e;have h1:=h.bd;have h2:=h.tab.map;rw[e] at h1;unfold au at h1;unfold ep at h2;rw[h1] at h2
  cases h2
 refine⟨rfl,⟨R.pt,R.pm,R.dv,R.G++[⟨{a with no:=S.last+1},ea,el,ec,R.ga⟩],R.ga+1⟩,⟨h.bd.mod hM (fun e=>e.elim hnw hnm),?_,?_,?_,?_⟩,⟨hM',fun k hk=>.inl hk⟩,rfl,rfl⟩
 ·show Ch w' R.pt R.pm (S.last+1) ((R.G++[_]).map Gn.e) (R.ga+1);rw[List.map_append];exact hT
 ·refine⟨h.eI.1,h.eI.2.imp id fun⟨g,cap,cur,h1,h2,hg,h3⟩=>⟨g,cap,cur,h1,h2,(hM.block g (Array.getElem?_eq_some_iff.1 hg).1 ?_).trans hg,h3⟩⟩;rintro(e|e)
  ·subst e;have h2:=h.tab.bd;unfold au at h2;rw[hg] at h2;injection h2 with h2;injection h2 with _ h2;revert h2;decide
  ·subst e;have h2:=h.tab.map;unfold ep at h2;rw[hg] at h2
   cases h2
 ·show S.ns++[_]=(R.G++[_]).map (fun g:Gn=>g.a);rw[List.map_append,←h.ns];rfl
 ·intro g hg;rcases List.mem_append.1 hg with hg|hg
  ·exact(h.aB g hg).wd h hst
  ·simp only[List.mem_cons,List.not_mem_nil,or_false] at hg;subst hg;exact he.wd h hst
end
end
section
open Go.RowKit
section
variable{w w':World}{pw:Nat}{R:Rp}{S:Fs}
theorem wT{S:Fs}{a:An}(h:S.root a.dev=0):S.make a=(S,0,1):=by unfold Fs.make;rw[if_pos h]
theorem AS{S:Fs}{a:An}{v:Dv}(h:S.root a.dev≠0)(hv:S.dev a.dev=some v)(he:gZ v.b v.n v.mb v.mn (bR a.kind a.data.size) 1≠0):S.make a=(S,0,gZ v.b v.n v.mb v.mn (bR a.kind a.data.size) 1):=by
 unfold Fs.make;rw[if_neg h,hv];simp only;rw[if_neg he]
theorem Ev{S:Fs}{a:An}{v:Dv}(h:S.root a.dev≠0)(hv:S.dev a.dev=some v)(he:gZ v.b v.n v.mb v.mn (bR a.kind a.data.size) 1=0) :
  S.make a=((S.aR a.dev {v with b:=v.b+bR a.kind a.data.size,n:=v.n+1}).add a,S.last+1,0):=by
 unfold Fs.make;rw[if_neg h,hv];simp only;rw[if_pos he]
theorem Co(h:bh w pw R S)(hd:0<S.ds.length)(a:An)(ea:Option Addr)(el ec:Nat)(hr:S.root a.dev=0) :
  Calls Tryz.prog 177 #[.pointer (some ⟨pw,0,none⟩),a.v ea el ec] w fun e w'=>e=.returned (.tuple #[.int .i64 0,.int .i64 1])∧Up w w':=by
 have HR:=Um (fM (h.ak ((Below.refl _ w).alloc (aa _) (.cells #[.int .i64 a.no,.int .i64 a.dev,.int .i64 a.kind,.int .i64 a.mode,.int .i64 a.uid,.int .i64 a.gid,.int .i64 a.mtime,.int .i64 a.ctime,.int .i64 a.an,.int .i64 a.up,.string a.data,.slice ea el ec] 99))) hd a.dev);rw[hr] at HR;unfold An.v;clear h hd hr;go_enter Tryz.func177,Tryz.ntmps177;go_wp2_with fail;refine HR.o.mono ?_;rintro e w1 ⟨rfl,rfl⟩;go_wp2_with fail;go_ret2;exact⟨rfl,al (Below.refl _ _) _⟩
theorem E6(h:bh w pw R S){k:Nat}(hk:k<S.ds.length)(a:An)(ea:Option Addr)(el ec:Nat)(he:aA w ea el ec a.aB)(hdev:a.dev=(k:Int)+1)(hr:S.root a.dev≠0)(hs:a.data.size≤9223372036854775807)(dL:0≤S.last)(qk:S.last≤1000000) :
  Calls Tryz.prog 177 #[.pointer (some ⟨pw,0,none⟩),a.v ea el ec] w fun e w'=>e=.returned (.tuple #[.int .i64 (S.make a).2.1,.int .i64 (S.make a).2.2])∧∃R',bh w' pw R' (S.make a).1∧aL (R.F pw) (R'.F pw) w w':=by
 have HR:=Um (fM (h.ak ((Below.refl _ w).alloc (aa _) (.cells #[.int .i64 a.no,.int .i64 a.dev,.int .i64 a.kind,.int .i64 a.mode,.int .i64 a.uid,.int .i64 a.gid,.int .i64 a.mtime,.int .i64 a.ctime,.int .i64 a.an,.int .i64 a.up,.string a.data,.slice ea el ec] 99))) (by omega) a.dev);obtain⟨g,cap,hdv,hle,sI,hgl,hc,hfg,-⟩:=h.jm (by omega);obtain⟨c0,c1,c2,c3,c4,c5⟩:=hc k hk;obtain⟨v,hv⟩:∃v,S.ds[k]=v:=⟨_,rfl⟩;rw[hv] at c0 c1 c2 c3 c4 c5;obtain⟨pc,-,pz⟩:=h.bd.facts;rw[hdv] at pc;obtain⟨rt,hrt⟩:∃rt,S.root a.dev=rt:=⟨_,rfl⟩;have hrn:=hr;rw[hrt] at HR hr;have vC:S.dev a.dev=some v:=by
  unfold Fs.dev;rw[if_pos (by omega),hdev,show((k:Int)+1-1).toNat=k by omega,List.getElem?_eq_getElem hk,hv]
 obtain⟨n,hn⟩:∃n,S.ds.length=n:=⟨_,rfl⟩;have hkn:k<n:=by omega
 rw[hn] at pc hle;have J5:(rt==0)=false:=by simpa using hr
 have hT:=fun w=>s5 v.b v.n v.mb v.mn (bR a.kind a.data.size) 1 w;unfold II at hT;have HB:=Um (fun w=>oT a.kind a.data.size (by omega) w);have zd:=Um (fun(yB:gZ v.b v.n v.mb v.mn (bR a.kind a.data.size) 1≠0)=>AS hrn vC yB);have sg:=Um (fun(yB:gZ v.b v.n v.mb v.mn (bR a.kind a.data.size) 1=0)=>Ev hrn vC yB);have HQ:=Um (fun(yB:gZ v.b v.n v.mb v.mn (bR a.kind a.data.size) 1=0)=>show Cy v.b v.n v.mb v.mn (bR a.kind a.data.size) 1=v.b+bR a.kind a.data.size∧Cx v.b v.n v.mb v.mn (bR a.kind a.data.size) 1=v.n+1 by unfold Cy Cx;rw[if_pos yB,if_pos yB];exact⟨rfl,rfl⟩);have oc:=Um h;have jW:=Um he;have j8:=Um hdv;have HV:=Um (show∃hk:k<S.ds.length,S.ds[k]=v from⟨hk,hv⟩);have Le:=Um hdev;unfold An.v;rw[hdev] at HR⊢;have B1:=au.new w #[.int .i64 a.no,.int .i64 ((k:Int)+1),.int .i64 a.kind,.int .i64 a.mode,.int .i64 a.uid,.int .i64 a.gid,.int .i64 a.mtime,.int .i64 a.ctime,.int .i64 a.an,.int .i64 a.up,.string a.data,.slice ea el ec] 99;have ar:=(Uq w).alloc (aa _) (.cells #[.int .i64 a.no,.int .i64 ((k:Int)+1),.int .i64 a.kind,.int .i64 a.mode,.int .i64 a.uid,.int .i64 a.gid,.int .i64 a.mtime,.int .i64 a.ctime,.int .i64 a.an,.int .i64 a.up,.string a.data,.slice ea el ec] 99);clear h hr hrn hrt hn hv hc hdv vC he hk hdev c0 c1;generalize bR a.kind a.data.size=bk at hT HB zd sg HQ;generalize gZ v.b v.n v.mb v.mn bk 1=e0 at hT zd sg HQ;generalize Cy v.b v.n v.mb v.mn bk 1=qb at hT HQ;generalize Cx v.b v.n v.mb v.mn bk 1=qn at hT HQ;have HT:=Um hT;clear hT;go_enter Tryz.func177,Tryz.ntmps177;go_wp2_with fail;refine HR.o.mono ?_;rintro e w1 ⟨rfl,rfl⟩;generalize w.alloc _=W at B1 ar⊢;obtain⟨Bn,vE⟩:∃Bn,w.heap.size=Bn:=⟨_,rfl⟩;rw[vE] at B1⊢;obtain⟨bc,bf,bz⟩:=B1.facts;rw[←ar.cell (p:=⟨g,k*6+2,none⟩) hgl] at c2;rw[←ar.cell (p:=⟨g,k*6+3,none⟩) hgl] at c3;rw[←ar.cell (p:=⟨g,k*6+4,none⟩) hgl] at c4;rw[←ar.cell (p:=⟨g,k*6+5,none⟩) hgl] at c5;have pc1:W.cell? ⟨pw,1,none⟩=_:=(ar.cell (p:=⟨pw,1,none⟩) pz).trans (pc 1);have yx:g<W.heap.size:=Nat.lt_of_lt_of_le hgl ar.size;have QI:pw<W.heap.size:=Nat.lt_of_lt_of_le pz ar.size;have HW:=Um ar;have cM:=Um B1;have QB:=Um vE;clear pc ar B1 vE;go_upto_region 3 with(fail)
 go_cut [6,7] (fun t6 t7 wx=>∃Bq:Nat,t6=.pointer (some ⟨Bq,0,none⟩)∧t7=.int .i64 e0∧au wx Bq #[.int .i64 qb,.int .i64 qn,.int .i64 v.mb,.int .i64 v.mn] 206∧Up W wx)
 case first=>
  go_wp2_with fail;have pO:IntKind.i64.wrap ((k:Int)+1-1)=(k:Int):=by rw[IntKind.wrap_i64];omega
  have Ih:IntKind.i64.wrap (k:Int)=(k:Int):=by rw[IntKind.wrap_i64];omega
  have bJ:(k:Int)<(n:Int):=by omega
  have dI:(0:Int)≤(k:Int):=by omega
  have hzz:W.heap.size≤W.heap.size:=aa _
  go_region_held3 (fun w'=>(∀b o,b<W.heap.size→w'.cell? ⟨b,o,none⟩=W.cell? ⟨b,o,none⟩)∧Up W w') (first|with_reducible assumption|with_reducible exact ck _|with_reducible exact bI _|with_reducible exact bN (by assumption) (by assumption)|with_reducible exact bB (by assumption) _|with_reducible exact bu (by assumption) _|with_reducible exact bm (by assumption) (by assumption)|with_reducible exact cj (by assumption) (by assumption))
   (first|(go_at_call 170;((with_reducible refine(HB.o _).mono ?_);rintro e w4 ⟨rfl,rfl⟩))|(go_at_call 169;((with_reducible refine(HT.o _).mono ?_);rintro e w4 ⟨rfl,b9⟩;have Pg:=ae (And.right ‹(∀b o,b<W.heap.size→_)∧Up W _›).size b9.size;try (have hbq:=gj b9;obtain⟨bqc,bqf,bqz⟩:=hbq.facts))))
  all_goals
   obtain⟨-,lJ⟩:=‹_∧Up W _›;have sO:=Um lJ
   try (have zv:=Um hbq)
   clear lJ;go_wp2_with fail;go_meet;exact⟨_,rfl,rfl,by first|exact zv.o.cO|exact au.new _ _ _,sO.o⟩
 case rest=>
  obtain⟨Bq,rfl,rfl,hQ,hS⟩:=hcut;have HS:=Um hS;have oY:=Um (show Up w wc from HW.o.trans (hS.mono HW.o.size));by_cases h0:e0=0
  ·obtain⟨hk,hv⟩:=HV.o;obtain⟨rfl,rfl⟩:=HQ.o h0;have jU:=Um (sg.o h0);subst h0;obtain⟨qc,qf,qz⟩:=hQ.facts;have pcw:wc.cell? ⟨pw,1,none⟩=_:=(hS.cell (p:=⟨pw,1,none⟩) QI).trans pc1;have bcw:wc.cell? ⟨Bn,1,none⟩=_:=(hS.cell (p:=⟨Bn,1,none⟩) bz).trans (bc 1);rw[←hS.cell (p:=⟨g,k*6+2,none⟩) yx] at c2;rw[←hS.cell (p:=⟨g,k*6+3,none⟩) yx] at c3;rw[←hS.cell (p:=⟨g,k*6+4,none⟩) yx] at c4;rw[←hS.cell (p:=⟨g,k*6+5,none⟩) yx] at c5;have hfw:∀i,wc.frozen? ⟨g,i,none⟩=false:=fun i=>(oY.o.frozen (p:=⟨g,i,none⟩) hgl).trans (hfg i);have zo:=oc.o.ak oY.o;obtain⟨Kl,GO⟩:=zo.IW j8.o hk v hv (v.b+bk) (v.n+1);have hgF:R.F pw g:=.inr (.inr (.inr (by rw[j8.o];rfl)));have mF:aL (R.F pw) (R.F pw) wc _:=aL.dH (GO.mono (fun x hx=>by rw[hx];exact hgF));have HEq:=Um ((jW.o.ak oY.o).wd zo mF);have EJ:=(cM.o.ak hS).wd zo mF rfl;have EX:=Um Kl;have gr:=Um ((aL.aq oY.o).trans mF);clear zo Kl GO mF pc1 hfg;go_wp2_with fail;have mixed:Tryz.prog.follows .mixedOrders=true:=by kernel_rfl
   have pO:IntKind.i64.wrap ((k:Int)+1-1)=(k:Int):=by rw[IntKind.wrap_i64];omega
   have Ih:IntKind.i64.wrap (k:Int)=(k:Int):=by rw[IntKind.wrap_i64];omega
   have bJ:(k:Int)<(n:Int):=by omega
   have dI:(0:Int)≤(k:Int):=by omega
   refine ay 8 mixed (by kernel_rfl) dQ ?_;simp only[List.take_succ_cons,List.take_zero,List.drop_succ_cons,List.drop_zero]
   repeat still_step
   refine wpStill_nil ?_;go_wp2_with fail;generalize (((wc.setCell ⟨g,k*6+2,none⟩ (.int .i64 (v.b+bk))).setCell ⟨g,k*6+3,none⟩ (.int .i64 (v.n+1))).setCell ⟨g,k*6+4,none⟩ (.int .i64 v.mb)).setCell ⟨g,k*6+5,none⟩ (.int .i64 v.mn)=X at HEq EJ EX gr⊢;obtain⟨xc,-,xz⟩:=EX.o.bd.facts;obtain⟨bc,bf,bz⟩:=EJ.facts;clear c2 c3 c4 c5 hfw pcw bcw qc qf qz;refine ay 5 mixed (by kernel_rfl) dQ ?_;simp only[List.take_succ_cons,List.take_zero,List.drop_succ_cons,List.drop_zero]
   repeat still_step
   refine wpStill_nil ?_;have vn:Up X X.drew.drew:=((Below.refl _ X).drew).drew;have hAdd:=(EX.o.ak vn).Tz a (HEq.o.ak vn) dL qk;unfold An.v at hAdd;rw[Le.o] at hAdd;have HAdd:=Um hAdd;clear hAdd;go_wp2_with fail;refine HAdd.o.mono ?_;rintro e w5 ⟨rfl,R',ev,fo,-,-⟩;have xJ:=Um (ag ev fo);clear ev fo;go_wp2_with fail;go_ret2;rw[jU.o];refine⟨rfl,R',?_,(gr.o.trans (aL.aq vn)).trans xJ.o.2⟩;rw[Le.o];exact xJ.o.1
  ·have jU:=Um (zd.o h0);have o3:(e0 != 0)=true:=by simpa using h0
   clear h0;go_wp2_with fail;go_ret2;rw[jU.o];exact⟨rfl,R,oc.o.ak oY.o,aL.aq oY.o⟩
end
end
section
open Go.RowKit
theorem aT{w:World}{base sz n k:Nat}{e:TypeId}{v:Value}{xs:List Value}(h:w.ownsRow base e sz v n xs)(hk:v.ownBlock=some k):base≤k∧∃cur,w.heap[k]?=some (.cells cur e (0,0)):=by
 rcases h.2 with⟨rfl,-⟩|⟨g,cap,cur,rfl,hb,hg,-⟩
 ·cases hk
 ·simp only[Value.ownBlock,Option.some.injEq] at hk;subst hk;exact⟨hb,cur,hg⟩
section
variable{w w':World}{pw:Nat}{R:Rp}{S:Fs}
theorem bh.Mg(h:bh w pw R S)(hM:Mod (fun k=>k=R.pt∨k=R.pm) w w'):aL (R.F pw) (R.F pw) w w'∧au w' pw #[.pointer (some ⟨R.pt,0,none⟩),R.dv] 188∧w'.ownsRow 0 249 6 R.dv S.ds.length (S.ds.flatMap Dv.cs):=by
 have hM':Mod (R.F pw) w w':=hM.mono (fun k hk=>hk.elim (fun e=>.inr (.inl e)) (fun e=>.inr (.inr (.inl e))));have hap:∀(x:Nat) (vs:Array Value) (T:TypeId),au w x vs T→T≠245→¬(x=R.pt∨x=R.pm):=by
  rintro x vs T hx hT (rfl|rfl)
  ·have h2:=h.tab.bd;unfold au at hx h2;rw[hx] at h2;injection h2 with h2;injection h2 with _ h2;exact hT h2
  ·have h2:=h.tab.map;unfold ep at h2;unfold au at hx;rw[hx] at h2
   cases h2
 refine⟨aL.dH hM',h.bd.mod hM (hap _ _ _ h.bd (by decide)),⟨h.eI.1,h.eI.2.imp id fun⟨g,cap,cur,h1,h2,hg,h3⟩=>⟨g,cap,cur,h1,h2,(hM.block g (Array.getElem?_eq_some_iff.1 hg).1 (hap _ _ _ hg (by decide))).trans hg,h3⟩⟩⟩
def Gn.put(a:An)(ea:Option Addr)(el ec:Nat)(g:Gn):Gn:=if g.a.no==a.no then⟨a,ea,el,ec,g.ga⟩ else g
theorem bh.zY(h:bh w pw R S)(a:An){ea:Option Addr}{el ec:Nat}(he:aA w ea el ec a.aB){b:An}(hb:S.get a.no=some b) :
  Calls Tryz.prog 109 #[.pointer (some ⟨R.pt,0,none⟩),a.v ea el ec] w fun e w'=>e=.returned (.bool true)∧∃R',bh w' pw R' (S.set a)∧aL (R.F pw) (R'.F pw) w w'∧R'.pt=R.pt∧R'.dv=R.dv:=by
 obtain⟨g0,-,-,hf,-⟩:=QD h hb;refine(Mm g0.nd (a.nd ea el ec) w R.pt R.pm S.last _ R.ga h.tab hf).mono ?_;rintro e w' ⟨rfl,hT,hM⟩;obtain⟨hst,hblk,hdv⟩:=h.Mg hM;refine⟨rfl,⟨R.pt,R.pm,R.dv,R.G.map (Gn.put a ea el ec),R.ga⟩,⟨hblk,?_,hdv,?_,?_⟩,⟨hst.mod,fun k hk=>.inl hk⟩,rfl,rfl⟩
 ·show Ch w' R.pt R.pm S.last ((R.G.map (Gn.put a ea el ec)).map Gn.e) R.ga;have e:(R.G.map (Gn.put a ea el ec)).map Gn.e=(R.G.map Gn.e).map fun x=>if x.1.no==(a.nd ea el ec).no then(a.nd ea el ec,x.2) else x:=by
   rw[List.map_map,List.map_map];apply List.map_congr_left;intro g _;simp only[Function.comp_apply,Gn.put];show Gn.e (if(g.a.no==a.no)=true then _ else g)=if(g.a.no==a.no)=true then _ else _
   split
   ·rfl
   ·rfl
  rw[e];exact hT
 ·show(S.ns.map _)=(R.G.map (Gn.put a ea el ec)).map (fun g:Gn=>g.a);rw[h.ns,List.map_map,List.map_map];apply List.map_congr_left;intro g _;simp only[Function.comp_apply,Gn.put]
  split<;>rfl
 ·intro g hg;obtain⟨g1,A9,rfl⟩:=List.mem_map.1 hg;unfold Gn.put
  split
  ·exact he.wd h hst
  ·exact(h.aB g1 A9).wd h hst
theorem KM:(Tryz.prog.info? 249).map (fun i=>(i.zero,i.size,i.bytes))=some (some (.agg #[.int .i64 0,.int .i64 0,.int .i64 0,.int .i64 0,.int .i64 0,.int .i64 0]),6,48):=by kernel_rfl
def Fs.rm(S:Fs)(over b n:Int):Fs:={S with ds:=S.ds++[⟨0,over,1,1,b,n⟩]}
theorem bh.app(h:bh w pw R S)(hl:S.ds.length≤100)(ad:Addr)(over b n:Int)(had:∀j u,(Dv.cs ⟨0,over,1,1,b,n⟩)[j]?=some u→w.cell? (ad.add j)=some u) :
  ∃g cap W,(Builtin.append_ #[186,186] 186 #[R.dv,.slice (some ad) 1 1]).run Tryz.prog w=.ok (.slice (some ⟨g,0,none⟩) (S.ds.length+1) cap) W∧
   bh (W.setCell ⟨pw,1,none⟩ (.slice (some ⟨g,0,none⟩) (S.ds.length+1) cap)) pw {R with dv:=.slice (some ⟨g,0,none⟩) (S.ds.length+1) cap} (S.rm over b n)∧
   aL (R.F pw) (Rp.F {R with dv:=.slice (some ⟨g,0,none⟩) (S.ds.length+1) cap} pw) w (W.setCell ⟨pw,1,none⟩ (.slice (some ⟨g,0,none⟩) (S.ds.length+1) cap))∧
   au W pw #[.pointer (some ⟨R.pt,0,none⟩),R.dv] 188∧Mod (fun k=>R.dv.ownBlock=some k) w W:=by
 obtain⟨i0,hi,iU,gx,fT⟩:=info_parts KM;obtain⟨g,cap,W,h1,h2,h3,h4⟩:=cX (186) Tryz.underlying186 hi iU gx fT rfl (by omega) h.eI ad 1 1 (Dv.cs ⟨0,over,1,1,b,n⟩) rfl had (by intro u hu;simp[Dv.cs] at hu;rcases hu with rfl|rfl|rfl|rfl|rfl<;>rfl) (by omega) (by unfold maxLen;omega) (by omega) (Nat.zero_le _);have hM:Mod (R.F pw) w W:=h3.mono (fun k hk=>.inr (.inr (.inr hk)));have hap:∀(x:Nat) (vs:Array Value) (T:TypeId),au w x vs T→T≠249→¬(R.dv.ownBlock=some x):=by
  intro x vs T hx hT hk;obtain⟨-,cur,hc⟩:=aT h.eI hk;unfold au at hx;rw[hx] at hc;injection hc with hc;injection hc with _ hc;exact hT hc
 have lS:au W pw #[.pointer (some ⟨R.pt,0,none⟩),R.dv] 188:=h.bd.mod h3 (hap _ _ _ h.bd (by decide));have hpg:pw≠g:=by
  rintro rfl;rcases h4 with h4|h4
  ·exact hap _ _ _ h.bd (by decide) h4
  ·have:=h.bd.lt;omega
 have hmap:¬(R.dv.ownBlock=some R.pm):=fun hk=>by
  obtain⟨-,cur,hc⟩:=aT h.eI hk;have:=h.tab.map;unfold ep at this;rw[hc] at this
  cases this
 have sm:aL (R.F pw) (R.F pw) w (W.setCell ⟨pw,1,none⟩ (.slice (some ⟨g,0,none⟩) (S.ds.length+1) cap)):=aL.dH (hM.setCell (.inl (.inl rfl)) _);have hnt:pw≠R.pt:=fun e=>by
  have h1:=h.bd;have h2:=h.tab.bd;rw[e] at h1;unfold au at h1 h2;rw[h1] at h2;injection h2 with h2;injection h2 with _ h2;revert h2;decide
 have hnm:pw≠R.pm:=fun e=>by
  have h1:=h.bd;have h2:=h.tab.map;rw[e] at h1;unfold au at h1;unfold ep at h2;rw[h1] at h2;cases h2
 refine⟨g,cap,W,h1,⟨?_,⟨?_,?_,h.tab.once,h.tab.low⟩,?_,h.ns,fun x hx=>(h.aB x hx).wd h sm⟩,⟨sm.mod,fun k hk=>?_⟩,lS,h3⟩
 ·exact lS.set 1 _
 ·exact(h.tab.bd.mod h3 (hap _ _ _ h.tab.bd (by decide))).setOther _ _ hnt
 ·exact ep.setOther ((h3.block _ h.tab.map.lt hmap).trans h.tab.map) _ _ hnm
 ·show World.ownsRow _ 0 249 6 _ (S.ds++[_]).length ((S.ds++[_]).flatMap Dv.cs);rw[List.length_append,List.length_singleton,List.flatMap_append,List.flatMap_singleton];refine bq h2 ((Mod.refl (fun k=>k=pw) W).setCell (a:=⟨pw,1,none⟩) (.inl rfl) _) (fun k hk e=>?_);subst hk;simp only[Value.ownBlock,Option.some.injEq] at e;exact hpg e.symm
 ·rcases hk with hk|hk|hk|hk
  ·exact .inl (.inl hk)
  ·exact .inl (.inr (.inl hk))
  ·exact .inl (.inr (.inr (.inl hk)))
  ·simp only[Value.ownBlock,Option.some.injEq] at hk;subst hk;rcases h4 with h4|h4
   ·exact .inl (.inr (.inr (.inr h4)))
   ·exact .inr (by omega)
end
end
section
open Go.RowKit
theorem we{α:Type}{enc:α→List Value}{w:World}{base sz n:Nat}{e:TypeId}{v:Value}{ys:List α}(hpos:0<sz)(hl:∀x,(enc x).length=sz)(h:w.ownsRow base e sz v n (ys.flatMap enc))(hn:0<n) :
  ∃g cap,v=.slice (some ⟨g,0,none⟩) n cap∧ys.length=n∧n≤cap∧cap≤9223372036854775807∧base≤g∧g<w.heap.size∧
   (∀(i:Nat) (hi:i<ys.length) (j:Nat) (hj:j<sz),w.cell? ⟨g,i*sz+j,none⟩=some ((enc ys[i])[j]'(by rw[hl];exact hj)))∧∃cur,au w g cur e:=by
 obtain⟨a,cap,rfl,hle,sI,hf⟩:=bw h;rcases hf with⟨-,h1,-⟩|⟨g,rfl,hb,hg⟩
 ·omega
 ·obtain⟨hy,-,-,h1|⟨b,off,he,aD,hel⟩⟩:=bW (R:=fun cs x=>cs=enc x) hpos hl (fun _=>rfl) h
  ·omega
  ·injection he with he;injection he with e1 e2;subst e1 e2;obtain⟨cur,hcur⟩:∃cur,au w g cur e:=by
    rcases h.2 with⟨h1,-⟩|⟨g',cap',cur,h1,-,hg',-⟩
    ·cases h1
    ·injection h1 with h1;injection h1 with h1;injection h1 with h1;subst h1;exact⟨cur,hg'⟩
   refine⟨g,cap,rfl,hy,hle,sI,hb,hg,fun i hi j hj=>?_,cur,hcur⟩;obtain⟨cs,h2,h3,h4⟩:=hel i hi;subst h3;have:=h4 j (by rw[hl];exact hj);rw[Nat.zero_add] at this;exact this
def Gn.cs(g:Gn):List Value:=[.int .i64 g.a.no,.int .i64 g.a.dev,.int .i64 g.a.kind,.int .i64 g.a.mode,.int .i64 g.a.uid,.int .i64 g.a.gid,.int .i64 g.a.mtime,.int .i64 g.a.ctime,.int .i64 g.a.an,.int .i64 g.a.up,.string g.a.data,.slice g.ea g.el g.ec]
theorem Gn.bt(g:Gn):g.cs.length=12:=rfl
structure Rf where
 nv:Value
 dv:Value
 G:List Gn
 now:Int
 oS:Value
 pl:Value
 dd:Value
def Rf.F(R:Rf)(pf k:Nat):Prop:=k=pf∨R.nv.ownBlock=some k∨R.dv.ownBlock=some k
structure aE(w:World)(pf:Nat)(R:Rf)(S:Fs):Prop where
 bd:au w pf #[R.nv,R.dv,.int .i64 S.last,.int .i64 R.now,R.oS,R.pl,R.dd] 76
 sj:w.ownsRow 0 99 12 R.nv R.G.length (R.G.flatMap Gn.cs)
 eI:w.ownsRow 0 208 6 R.dv S.ds.length (S.ds.flatMap Dv.cs)
 ns:S.ns=R.G.map (·.a)
 aB:∀g∈R.G,aA w g.ea g.el g.ec g.a.aB
def kQ(o:Obj):Bool:=match o with
 | .cells _ t _=>t==76||t==99||t==208
 |_=>false
section
variable{w w':World}{pf:Nat}{R:Rf}{S:Fs}
theorem aE.kind(h:aE w pf R S){k:Nat}(hk:R.F pf k):∃o,w.heap[k]?=some o∧kQ o=true:=by
 rcases hk with rfl|hk|hk
 ·exact⟨_,h.bd,rfl⟩
 ·obtain⟨-,cur,hc⟩:=aT h.sj hk;exact⟨_,hc,rfl⟩
 ·obtain⟨-,cur,hc⟩:=aT h.eI hk;exact⟨_,hc,rfl⟩
theorem aE.lt(h:aE w pf R S){k:Nat}(hk:R.F pf k):k<w.heap.size:=by
 obtain⟨o,ho,-⟩:=h.kind hk;exact(Array.getElem?_eq_some_iff.1 ho).1
theorem aA.rf{a:Option Addr}{n c:Nat}{es:List En}(he:aA w a n c es)(h:aE w pf R S){F':Nat→Prop}(hs:aL (R.F pf) F' w w'):aA w' a n c es:=
 he.eB (fun b cur hc=>hs.mod.block b (Array.getElem?_eq_some_iff.1 hc).1 (fun hk=>by
  obtain⟨o,ho,hd⟩:=h.kind hk;rw[hc] at ho;injection ho with ho;subst ho;rw[show kQ (.cells cur 271 (0,0))=false from rfl] at hd
  cases hd)) hs.mod.size
theorem au.rf{B:Nat}{vs:Array Value}{T:TypeId}(hb:au w B vs T)(h:aE w pf R S){F':Nat→Prop}(hs:aL (R.F pf) F' w w')(hT:kQ (.cells #[] T (0,0))=false):au w' B vs T:=
 hb.mod hs.mod (fun hk=>by
  obtain⟨o,ho,hd⟩:=h.kind hk;unfold au at hb;rw[hb] at ho;injection ho with ho;subst ho;rw[show kQ (.cells vs T (0,0))=kQ (.cells #[] T (0,0)) from rfl,hT] at hd
  cases hd)
theorem AD{base sz n:Nat}{e:TypeId}{v:Value}{xs:List Value}(h:w.ownsRow base e sz v n xs)(ht:∀k,v.ownBlock=some k→w'.heap[k]?=w.heap[k]?):w'.ownsRow base e sz v n xs:=
 ⟨h.1,h.2.imp id fun⟨g,cap,cur,h1,h2,hg,h3⟩=>⟨g,cap,cur,h1,h2,(ht g (by rw[h1];rfl)).trans hg,h3⟩⟩
theorem aE.eB(h:aE w pf R S)(ht:∀k,R.F pf k→w'.heap[k]?=w.heap[k]?)(he:∀(b:Nat) (cur:Array Value),w.heap[b]?=some (.cells cur 271 (0,0))→w'.heap[b]?=w.heap[b]?)(hs:w.heap.size≤w'.heap.size):aE w' pf R S where
 bd:=(ht _ (.inl rfl)).trans h.bd
 sj:=AD h.sj (fun k hk=>ht k (.inr (.inl hk)))
 eI:=AD h.eI (fun k hk=>ht k (.inr (.inr hk)))
 ns:=h.ns
 aB:=fun g hg=>(h.aB g hg).eB he hs
theorem aE.ak(h:aE w pf R S)(hb:Up w w'):aE w' pf R S:=
 h.eB (fun k hk=>hb.block k (h.lt hk)) (fun b cur hc=>hb.block b (Array.getElem?_eq_some_iff.1 hc).1) hb.size
theorem aE.mod(h:aE w pf R S){F:Nat→Prop}(hm:Mod F w w')(hF:∀(k:Nat) (o:Obj),F k→w.heap[k]?=some o→kQ o=false∧∀cur,o≠.cells cur 271 (0,0)):aE w' pf R S:=
 h.eB (fun k hk=>hm.block k (h.lt hk) (fun hf=>by
  obtain⟨o,ho,hd⟩:=h.kind hk;rw[(hF k o hf ho).1] at hd
  cases hd)) (fun b cur hc=>hm.block b (Array.getElem?_eq_some_iff.1 hc).1 (fun hf=>(hF b _ hf hc).2 cur rfl)) hm.size
theorem aE.len(h:aE w pf R S):S.ns.length=R.G.length:=by rw[h.ns,List.length_map]
theorem O8(h:aE w pf R S)(k:Int):S.get k=(R.G.find? (fun g=>g.a.no==k)).map (·.a):=by
 unfold Fs.get;rw[h.ns,List.find?_map];rfl
def kh(G:List Gn)(no:Int):Int:=match G.findIdx? (fun g=>g.a.no==no) with|some i=>i|none=>-1
theorem C7{G:List Gn}{no:Int}{i:Nat}(hi:i<G.length)(h1:G[i].a.no=no)(h2:∀j (hj:j<G.length),j<i→G[j].a.no≠no):kh G no=i:=by
 unfold kh;rw[show G.findIdx? (fun g=>g.a.no==no)=some i from List.findIdx?_eq_some_iff_getElem.2 ⟨hi,by simpa using h1,fun j hj=>by simpa using h2 j (by omega) hj⟩]
theorem F7{G:List Gn}{no:Int}(h2:∀j (hj:j<G.length),G[j].a.no≠no):kh G no=-1:=by
 unfold kh;rw[show G.findIdx? (fun g=>g.a.no==no)=none from List.findIdx?_eq_none_iff.2 (fun g hg=>by
  obtain⟨j,hj,rfl⟩:=List.mem_iff_getElem.1 hg;simpa using h2 j hj)]
theorem qF(h:aE w pf R S)(k:Int):(∃(i:Nat) (hi:i<R.G.length),kh R.G k=i∧S.get k=some R.G[i].a∧R.G[i].a.no=k)∨(kh R.G k=-1∧S.get k=none):=by
 rw[O8 h];unfold kh
 cases hf:R.G.findIdx? (fun g=>g.a.no==k) with
 |some i=>
  obtain⟨hi,h1,h2⟩:=List.findIdx?_eq_some_iff_getElem.1 hf;left;refine⟨i,hi,rfl,?_,by simpa using h1⟩;rw[show R.G.find? (fun g=>g.a.no==k)=some R.G[i] from List.find?_eq_some_iff_getElem.2 ⟨h1,i,hi,rfl,fun j hj=>by simpa using h2 j hj⟩];rfl
 |none=>
  right;refine⟨rfl,?_⟩;rw[List.findIdx?_eq_none_iff] at hf;rw[show R.G.find? (fun g=>g.a.no==k)=none from List.find?_eq_none.2 (fun g hg=>by simpa using hf g hg)];rfl
structure NdC(w:World)(g o:Nat)(a:An)(ea:Option Addr)(el ec:Nat):Prop where
 c0:w.cell? ⟨g,o,none⟩=some (.int .i64 a.no)
 c1:w.cell? ⟨g,o+1,none⟩=some (.int .i64 a.dev)
 c2:w.cell? ⟨g,o+2,none⟩=some (.int .i64 a.kind)
 c3:w.cell? ⟨g,o+3,none⟩=some (.int .i64 a.mode)
 c4:w.cell? ⟨g,o+4,none⟩=some (.int .i64 a.uid)
 c5:w.cell? ⟨g,o+5,none⟩=some (.int .i64 a.gid)
 c6:w.cell? ⟨g,o+6,none⟩=some (.int .i64 a.mtime)
 c7:w.cell? ⟨g,o+7,none⟩=some (.int .i64 a.ctime)
 c8:w.cell? ⟨g,o+8,none⟩=some (.int .i64 a.an)
 c9:w.cell? ⟨g,o+9,none⟩=some (.int .i64 a.up)
 c10:w.cell? ⟨g,o+10,none⟩=some (.string a.data)
 c11:w.cell? ⟨g,o+11,none⟩=some (.slice ea el ec)
theorem aE.cm(h:aE w pf R S)(hn:0<R.G.length):∃g cap,R.nv=.slice (some ⟨g,0,none⟩) R.G.length cap∧R.G.length≤cap∧cap≤9223372036854775807∧g<w.heap.size∧
  (∀(i:Nat) (hi:i<R.G.length),NdC w g (i*12) R.G[i].a R.G[i].ea R.G[i].el R.G[i].ec)∧(∀i,w.frozen? ⟨g,i,none⟩=false)∧∃cur,au w g cur 99:=by
 obtain⟨g,cap,hv,-,h1,h2,-,h3,h4,cur,h5⟩:=we (by omega) Gn.bt h.sj hn;exact⟨g,cap,hv,h1,h2,h3,fun i hi=>⟨h4 i hi 0 (by omega),h4 i hi 1 (by omega),h4 i hi 2 (by omega),h4 i hi 3 (by omega),h4 i hi 4 (by omega),h4 i hi 5 (by omega),h4 i hi 6 (by omega),h4 i hi 7 (by omega),h4 i hi 8 (by omega),h4 i hi 9 (by omega),h4 i hi 10 (by omega),h4 i hi 11 (by omega)⟩,h5.frozen,cur,h5⟩
theorem aE.jm(h:aE w pf R S)(hd:0<S.ds.length):∃g cap,R.dv=.slice (some ⟨g,0,none⟩) S.ds.length cap∧S.ds.length≤cap∧cap≤9223372036854775807∧g<w.heap.size∧
  (∀(i:Nat) (hi:i<S.ds.length),DvC w g (i*6) S.ds[i])∧(∀i,w.frozen? ⟨g,i,none⟩=false)∧∃cur,au w g cur 208:=by
 obtain⟨g,cap,hv,-,h1,h2,-,h3,h4,cur,h5⟩:=we (by omega) Dv.bt h.eI hd;exact⟨g,cap,hv,h1,h2,h3,fun i hi=>⟨h4 i hi 0 (by omega),h4 i hi 1 (by omega),h4 i hi 2 (by omega),h4 i hi 3 (by omega),h4 i hi 4 (by omega),h4 i hi 5 (by omega)⟩,h5.frozen,cur,h5⟩
theorem aE.wN(h:aE w pf R S):∃a c,R.nv=.slice a R.G.length c∧R.G.length≤c∧c≤9223372036854775807:=by
 obtain⟨a,c,h1,h2,h3,-⟩:=bw h.sj;exact⟨a,c,h1,h2,h3⟩
theorem aE.EO(h:aE w pf R S):∃a c,R.dv=.slice a S.ds.length c∧S.ds.length≤c∧c≤9223372036854775807:=by
 obtain⟨a,c,h1,h2,h3,-⟩:=bw h.eI;exact⟨a,c,h1,h2,h3⟩
end
def Fs.cC(S:Fs)(k:Int):An:=(S.get k).getD dh
theorem iF{S:Fs}{k:Int}{a:An}(h:S.get k=some a):S.cC k=a:=by unfold Fs.cC;rw[h];rfl
theorem nG{S:Fs}{k:Int}(h:S.get k=none):S.cC k=dh:=by unfold Fs.cC;rw[h];rfl
end
section
open Go.RowKit
section
variable{w w':World}{pw:Nat}{R:Rp}{S:Fs}
theorem Mf(b n:Int)(h:hU b n=true):II 0 0 b n 1 1=.tuple #[.agg #[.int .i64 1,.int .i64 1,.int .i64 b,.int .i64 n],.int .i64 0]:=by
 obtain⟨h1,h2,h3,h4⟩:=qK h;have e:gZ 0 0 b n 1 1=0:=by
  unfold gZ rC ja;simp;omega
 have:=Cw 0 0 b n 1 1 e;simpa using this
theorem bh.Mn(h:bh w pw R S){g cap:Nat}(hdv:R.dv=.slice (some ⟨g,0,none⟩) S.ds.length cap){k:Nat}(hk:k<S.ds.length)(v:Dv)(hv:S.ds[k]=v)(r:Int) :
  bh (w.setCell ⟨g,k*6,none⟩ (.int .i64 r)) pw R {S with ds:=S.ds.set k {v with root:=r}}∧Mod (fun x=>x=g) w (w.setCell ⟨g,k*6,none⟩ (.int .i64 r)):=by
 have hm:Mod (fun x=>x=g) w (w.setCell ⟨g,k*6,none⟩ (.int .i64 r)):=(Mod.refl (fun x=>x=g) w).setCell (a:=⟨g,k*6,none⟩) (.inl rfl) _;refine⟨?_,hm⟩;obtain⟨g',cap',hdv',-,-,-,-,-,cur,hcur⟩:=h.jm (by omega);have e:=hdv.symm.trans hdv';injection e with e;injection e with e;injection e with e;subst e;have hne:∀(x:Nat) (vs:Array Value) (T:TypeId),au w x vs T→T≠249→x≠g:=by
  rintro x vs T hx hT rfl;unfold au at hx hcur;rw[hcur] at hx;injection hx with hx;injection hx with _ hx;exact hT hx.symm
 have h3:R.pm≠g:=by
  rintro e;have hm:=h.tab.map;unfold ep at hm;rw[e] at hm;unfold au at hcur;rw[hcur] at hm
  cases hm
 refine⟨h.bd.mod hm (hne _ _ _ h.bd (by decide)),⟨h.tab.bd.mod hm (hne _ _ _ h.tab.bd (by decide)),(hm.block _ h.tab.map.lt h3).trans h.tab.map,h.tab.once,h.tab.low⟩,?_,h.ns,fun x hx=>(h.aB x hx).eB (fun bk cr hc=>hm.block bk (Array.getElem?_eq_some_iff.1 hc).1 (hne bk cr _ hc (by decide))) hm.size⟩;show World.ownsRow _ 0 249 6 R.dv (S.ds.set k _).length ((S.ds.set k _).flatMap Dv.cs);rw[List.length_set];have h0:=h.eI;rw[hdv] at h0⊢;have hkl:k*6+5<(S.ds.flatMap Dv.cs).length:=by rw[qS];omega
 have p1:=fQ h0 (k*6) (by omega) (.int .i64 r);have hs:=fB Dv.bt ({v with root:=r}:Dv) S.ds k hk;rw[←hs];have hsame:∀(l:List Value) (j:Nat) (u:Value),l[j]?=some u→l.set j u=l:=by
  intro l j u hu;obtain⟨hlt,rfl⟩:=List.getElem?_eq_some_iff.1 hu;rw[List.set_getElem_self]
 have c:∀j (hj:j<6),(S.ds.flatMap Dv.cs)[k*6+j]?=(Dv.cs v)[j]?:=fun j hj=>by rw[fH Dv.bt S.ds k j hk hj,hv]
 have c':∀j (u:Value),1≤j→j<6→(Dv.cs v)[j]?=some u→((S.ds.flatMap Dv.cs).set (k*6) (.int .i64 r)).set (k*6+j) u=(S.ds.flatMap Dv.cs).set (k*6) (.int .i64 r):=fun j u h1 h6 hu=>
  hsame _ _ _ (by rw[List.getElem?_set_ne (by omega),c j h6,hu])
 show World.ownsRow _ 0 249 6 _ _ ((((((((S.ds.flatMap Dv.cs).set (k*6) (.int .i64 r)).set (k*6+1) (.int .i64 v.over)).set (k*6+2) (.int .i64 v.b)).set (k*6+3) (.int .i64 v.n)).set (k*6+4) (.int .i64 v.mb)).set (k*6+5) (.int .i64 v.mn)));rw[c' 1 _ (by omega) (by omega) rfl,c' 2 _ (by omega) (by omega) rfl,c' 3 _ (by omega) (by omega) rfl,c' 4 _ (by omega) (by omega) rfl,c' 5 _ (by omega) (by omega) rfl];exact p1
def jC(S:Fs):An:={dh with dev:=(S.ds.length:Int)+1,kind:=1,mode:=493,an:=1}
theorem DZ(S:Fs)(hn:gY S)(over b n:Int) :
  {(((S.rm over b n).add (jC S)).set {jC S with no:=S.last+1,up:=S.last+1}) with ds:=(S.rm over b n).ds.set S.ds.length {(⟨0,over,1,1,b,n⟩:Dv) with root:=S.last+1}}=S.aF over b n:=by
 unfold Fs.aF Fs.set Fs.add Fs.rm;simp only[List.map_append,List.map_cons,List.map_nil];congr 1
 ·congr 1
  ·conv=>rhs;rw[←List.map_id S.ns]
   apply List.map_congr_left;intro x hx;have:=hn.low x hx;simp only[id_eq];rw[if_neg];simp;omega
  ·simp[jC]
 ·rw[List.set_append_right _ _ (aa _)];simp
theorem AH{S:Fs}(hn:gY S)(over b n:Int):gY (S.rm over b n):=⟨hn.hH,hn.low⟩
theorem Mb(over b n:Int)(hlim:hU b n=false)(w:World)(pw:Nat) :
  Calls Tryz.prog 209 #[.pointer (some ⟨pw,0,none⟩),.int .i64 over,.int .i64 b,.int .i64 n] w fun e w'=>e=.returned (.int .i64 3)∧Up w w':=by
 have Qm:=Um (fun w=>Pd b n hlim w);clear hlim;go_enter Tryz.func209,Tryz.ntmps209;go_wp2_with fail;refine(Qm.o _).mono ?_;rintro e w1 ⟨rfl,ar⟩;go_wp2_with fail;go_ret;exact⟨rfl,al ar _⟩
theorem zI(h:bh w pw R S)(hn:gY S)(dL:0≤S.last)(qk:S.last≤1000000)(hd:S.ds.length≤7)(over b n:Int)(hlim:hU b n=true) :
  Calls Tryz.prog 209 #[.pointer (some ⟨pw,0,none⟩),.int .i64 over,.int .i64 b,.int .i64 n] w fun e w'=>e=.returned (.int .i64 0)∧∃R',bh w' pw R' (S.aF over b n)∧aL (R.F pw) (R'.F pw) w w':=by
 have Qm:=Um (fun w=>MO b n hlim w);have hT:=fun w=>s5 0 0 b n 1 1 w;rw[Mf b n hlim] at hT;have HT:=Um hT;have oc:=Um h;obtain⟨pc,-,pz⟩:=h.bd.facts;clear hlim hT h;go_enter Tryz.func209,Tryz.ntmps209;go_wp2_with fail;refine(Qm.o _).mono ?_;rintro e w1 ⟨rfl,ar⟩;go_wp2_with fail;refine(HT.o _).mono ?_;rintro e w2 ⟨rfl,aD⟩;have Ow:=tU aD;have GK:=ao (al ar (.cells #[.int .i64 0,.int .i64 0,.int .i64 b,.int .i64 n] 206)) aD;have lh:=ar.size;have If:=Um Ow;obtain⟨qc,qf,qz⟩:=Ow.facts;have HX:=Um (aw (v0:=.int .i64 1) (v1:=.int .i64 1) (v2:=.int .i64 b) (v3:=.int .i64 n) GK lh);have Im:=Ow.cO (v0:=.int .i64 1) (v1:=.int .i64 1) (v2:=.int .i64 b) (v3:=.int .i64 n);clear Ow ar aD;go_wp2_with fail;generalize (((w2.setCell ⟨w1.heap.size,0,none⟩ (.int .i64 1)).setCell ⟨w1.heap.size,1,none⟩ (.int .i64 1)).setCell ⟨w1.heap.size,2,none⟩ (.int .i64 b)).setCell ⟨w1.heap.size,3,none⟩ (.int .i64 n)=X at HX Im⊢;clear qc qf qz;obtain⟨qc,qf,qz⟩:=Im.facts;have hWX:=oc.o.ak HX.o;have bJ:Up X (X.alloc (.cells #[.int .i64 0,.int .i64 over,.int .i64 1,.int .i64 1,.int .i64 b,.int .i64 n] 249)).drew:=((Below.refl _ X).alloc (aa _) _).drew;obtain⟨g,cap,Y,hrun,qm,sq,et,QV⟩:=(hWX.ak bJ).app (by omega) ⟨X.heap.size,0,none⟩ over b n (World.news_of_block ((au.new X #[.int .i64 0,.int .i64 over,.int .i64 1,.int .i64 1,.int .i64 b,.int .i64 n] 249).drew));obtain⟨xc,-,xz⟩:=hWX.bd.facts;obtain⟨yc,yf,yz⟩:=et.facts;have mixed:Tryz.prog.follows .mixedOrders=true:=by kernel_rfl
 have HWY:=Um qm;have Ir:=Um ((aL.aq (HX.o.trans (bJ.mono HX.o.size))).trans sq);obtain⟨da,dc,hdv,-,-,-⟩:=bw oc.o.eI;rw[hdv] at xc yc hrun;clear pc qm sq hWX QV et hdv;have vH:=Um hrun;clear hrun;go_upto_region 5 with(fail)
 go_cut [] (fun wx=>wx=Y.setCell ⟨pw,1,none⟩ (.slice (some ⟨g,0,none⟩) (S.ds.length+1) cap))
 case first=>
  have hrun:=vH.o
  go_region_law_o (refine kI rfl rfl rfl rfl hrun ?_)
  all_goals
   go_wp2_with fail;go_meet;rfl
 case rest=>
  subst hcut;generalize Y.setCell ⟨pw,1,none⟩ (.slice (some ⟨g,0,none⟩) (S.ds.length+1) cap)=Z at HWY Ir⊢;clear xc xz yc yf yz qc qf qz bJ GK If Im vH;have PC:=HWY.o;obtain⟨zc,zf,zz⟩:=PC.bd.facts;obtain⟨m,hm⟩:∃m,S.ds.length=m:=⟨_,rfl⟩;have Hm:=Um hm;obtain⟨S2,jR⟩:∃S2,(S.rm over b n).add (jC S)=S2:=⟨_,rfl⟩;obtain⟨a5,Ii⟩:∃a5:An,{jC S with no:=S.last+1}=a5:=⟨_,rfl⟩;obtain⟨a6,Nv⟩:∃a6:An,{jC S with no:=S.last+1,up:=S.last+1}=a6:=⟨_,rfl⟩;have HAdd:=Um (show Calls Tryz.prog 222 #[.pointer (some ⟨R.pt,0,none⟩),.agg #[.int .i64 0,.int .i64 ((m:Int)+1),.int .i64 1,.int .i64 493,.int .i64 0,.int .i64 0,.int .i64 0,.int .i64 0,.int .i64 1,.int .i64 0,.string ByteArray.empty,.slice none 0 0]] Z fun e w'=>e=.returned (.int .i64 (S.last+1))∧∃R':Rp,bh w' pw R' S2∧aL (Rp.F {R with dv:=.slice (some ⟨g,0,none⟩) (S.ds.length+1) cap} pw) (R'.F pw) Z w'∧R'.pt=R.pt∧R'.dv=.slice (some ⟨g,0,none⟩) (S.ds.length+1) cap by
   rw[←hm,←jR];exact PC.Tz (jC S) (aA.nil Z) dL qk)
  have Lv:=Um (show S2.get (S.last+1)=some a5 by rw[←jR,←Ii,lB (AH hn over b n)];exact if_pos rfl);have HV5:=Um (fun(ea:Option Addr) (el ec:Nat)=>show a5.v ea el ec=.agg #[.int .i64 (S.last+1),.int .i64 ((m:Int)+1),.int .i64 1,.int .i64 493,.int .i64 0,.int .i64 0,.int .i64 0,.int .i64 0,.int .i64 1,.int .i64 0,.string ByteArray.empty,.slice ea el ec] by rw[←Ii,←hm];rfl);have HV6:=Um (fun(ea:Option Addr) (el ec:Nat)=>show a6.v ea el ec=.agg #[.int .i64 (S.last+1),.int .i64 ((m:Int)+1),.int .i64 1,.int .i64 493,.int .i64 0,.int .i64 0,.int .i64 0,.int .i64 0,.int .i64 1,.int .i64 (S.last+1),.string ByteArray.empty,.slice ea el ec] by rw[←Nv,←hm];rfl);have Uj:=Um (show a6.no=S.last+1∧a6.aB=a5.aB by rw[←Nv,←Ii];exact⟨rfl,rfl⟩);have HEq:=Um (show{(S2.set a6) with ds:=(S2.set a6).ds.set m {(⟨0,over,1,1,b,n⟩:Dv) with root:=S.last+1}}=S.aF over b n by rw[←jR,←Nv,←hm];exact DZ S hn over b n);have Iv:=Um (show(S2.set a6).ds[m]?=some ⟨0,over,1,1,b,n⟩∧(S2.set a6).ds.length=m+1 by
   rw[←jR,←hm];exact⟨by show(S.ds++[_])[S.ds.length]?=_;rw[List.getElem?_append_right (aa _)];simp,by show(S.ds++[_]).length=_;simp⟩)
  rw[hm] at zc;clear PC hm jR Ii Nv;go_wp2_with fail;refine HAdd.o.mono ?_;rintro e w5 ⟨rfl,R5,ev,fo,gy,yF⟩;have oZ:=Um (ag ev (ag ((Ir.o).trans fo) yF));obtain⟨rc,-,rz⟩:=ev.bd.facts;rw[yF,Hm.o] at rc;obtain⟨ea,el,ec,hE,hG⟩:=o7 ev Lv.o;rw[HV5.o] at hG;have HG:=Um hG;have HE:=Um hE;clear ev fo gy yF hG hE zc zf zz;go_wp2_with fail;refine HG.o.mono ?_;rintro e w6 ⟨rfl,eV⟩;have rc0:w6.cell? ⟨pw,0,none⟩=_:=(eV.cell (p:=⟨pw,0,none⟩) rz).trans (rc 0);have hz6:=Nat.lt_of_lt_of_le rz eV.size;have sP:=Um (al eV (.cells #[.int .i64 (S.last+1),.int .i64 ((m:Int)+1),.int .i64 1,.int .i64 493,.int .i64 0,.int .i64 0,.int .i64 0,.int .i64 0,.int .i64 1,.int .i64 (S.last+1),.string ByteArray.empty,.slice ea el ec] 99));have B7:=au.new w6 #[.int .i64 (S.last+1),.int .i64 ((m:Int)+1),.int .i64 1,.int .i64 493,.int .i64 0,.int .i64 0,.int .i64 0,.int .i64 0,.int .i64 1,.int .i64 (S.last+1),.string ByteArray.empty,.slice ea el ec] 99;clear rc eV rz;go_wp2_with fail;have rc7:(w6.alloc (.cells #[.int .i64 (S.last+1),.int .i64 ((m:Int)+1),.int .i64 1,.int .i64 493,.int .i64 0,.int .i64 0,.int .i64 0,.int .i64 0,.int .i64 1,.int .i64 (S.last+1),.string ByteArray.empty,.slice ea el ec] 99)).cell? ⟨pw,0,none⟩=_:=(((Uq w6).alloc (aa _) (.cells #[.int .i64 (S.last+1),.int .i64 ((m:Int)+1),.int .i64 1,.int .i64 493,.int .i64 0,.int .i64 0,.int .i64 0,.int .i64 0,.int .i64 1,.int .i64 (S.last+1),.string ByteArray.empty,.slice ea el ec] 99)).cell (p:=⟨pw,0,none⟩) hz6).trans rc0;generalize w6.alloc _=W7 at rc7 sP B7⊢;generalize w6.heap.size=B6 at B7⊢;obtain⟨bc,-,bz⟩:=B7.facts;have SI:Up W7 W7.drew:=(Below.refl _ W7).drew;have Np:=sP.o.trans (SI.mono sP.o.size);have iE:=(oZ.o.1.ak Np).zY a6 (ea:=ea) (el:=el) (ec:=ec) (by rw[Uj.o.2];exact HE.o.ak Np) (b:=a5) (by rw[Uj.o.1];exact Lv.o);rw[HV6.o] at iE;have dW:=Um iE;clear iE rc0 hz6;refine ay 5 mixed (by kernel_rfl) dQ ?_;simp only[List.take_succ_cons,List.take_zero,List.drop_succ_cons,List.drop_zero]
  repeat still_step
  refine wpStill_nil ?_;go_wp2_with fail;refine dW.o.mono ?_;rintro e w8 ⟨rfl,R8,ev,fo,gy,yF⟩;have J9:R8.dv=.slice (some ⟨g,0,none⟩) (m+1) cap:=by rw[yF,oZ.o.2.2,Hm.o]
  have hl8:(S2.set a6).ds.length=m+1:=Iv.o.2;have QM:m<(S2.set a6).ds.length:=by omega
  have hv8:(S2.set a6).ds[m]=⟨0,over,1,1,b,n⟩:=by
   have:=Iv.o.1;rw[List.getElem?_eq_getElem QM] at this;simpa using this
  obtain⟨g8,cap8,SH,Dr,h638,-,hc8,hf8,-⟩:=ev.jm (by omega);have e8:=SH.symm.trans J9;injection e8 with e8 e9 e10;injection e8 with e8;injection e8 with e8;subst e8 e10;have c8:=(hc8 m QM).c0;rw[hv8] at c8;obtain⟨rc,-,rz⟩:=ev.bd.facts;rw[J9] at rc;obtain⟨hWF,hMF⟩:=ev.Mn (by rw[hl8];exact J9) QM _ hv8 (S.last+1);have HF:=Um (ag hWF (show aL (R.F pw) (R8.F pw) w _ from((oZ.o.2.1.trans (aL.aq Np)).trans fo).trans (aL.dH (hMF.mono (fun x hx=>.inr (.inr (.inr (by rw[J9,hx];rfl))))))));rw[hl8] at Dr;clear ev fo gy yF J9 hl8 QM hv8 hc8 hWF hMF SH e9 bc bz SI Np rc7;have bJ:(m:Int)<(m:Int)+1:=by omega
  have dI:(0:Int)≤(m:Int):=by omega
  go_wp2_with fail;go_ret;refine⟨rfl,R8,?_,HF.o.2⟩;rw[←HEq.o];exact HF.o.1
end
end
section
open Go.RowKit
section
variable{w w':World}{pw:Nat}{R:Rp}{S:Fs}
theorem I3{S:Fs}{N:Nat}(over b n:Int):(S.aF over b n).root ((S.ds.length:Int)+1)=S.last+1:=by
 unfold Fs.root Fs.aF;simp;omega
theorem KG(S:Fs)(over b n:Int):(S.aF over b n).ds.length=S.ds.length+1:=by unfold Fs.aF;simp
theorem sX(h:bh w pw R S){N:Nat}(hk:av S N)(hN:N≤1000000)(k b n:Int) :
  Calls Tryz.prog 153 #[.pointer (some ⟨pw,0,none⟩),.int .i64 k,.int .i64 b,.int .i64 n] w fun e w'=>e=.returned (.tuple #[.int .i64 (S.cn k b n).2.1,.int .i64 (S.cn k b n).2.2])∧∃R',bh w' pw R' (S.cn k b n).1∧aL (R.F pw) (R'.F pw) w w':=by
 have oc:=Um h;have fL:=Um (gD h hk.d1);obtain⟨pc,-,pz⟩:=h.bd.facts
 cases hg:S.get k with
 |none=>
  have HM:=Um (show S.cn k b n=(S,0,5) by unfold Fs.cn;rw[hg]);have HG:=Um (fN h hg);unfold An.v dh at HG;clear h hk hg;go_enter Tryz.func153,Tryz.ntmps153;go_wp2_with fail;refine fL.o.mono ?_;rintro e w1 ⟨rfl,rfl⟩;go_wp2_with fail;refine HG.o.mono ?_;rintro e w1 ⟨rfl,ar⟩;go_wp2_with fail;go_ret2;rw[HM.o];exact⟨rfl,R,oc.o.ak (al ar _),aL.aq (al ar _)⟩
 |some a=>
  obtain⟨hao,hno,gP,-⟩:=hk.get hg;obtain⟨ea,el,ec,-,hgc⟩:=o7 h hg;have HG:=Um hgc;unfold An.v at HG;by_cases hkd:a.kind=1
  ·have q1:(a.kind==1)=true:=by simpa using hkd
   have q2:(a.kind != 1)=false:=by simpa using hkd
   have vt:=Um (fun w1 (ar:Up w w1)=>mX (h.ak ar) hk.d1 k);have D4:=Um (fun w1 (ar:Up w w1)=>fM (h.ak ar) hk.d1 a.dev);have Rk:=Um (fun(hx:S.over k≠k∨S.root a.dev=k)=>show S.cn k b n=(S,0,16) by unfold Fs.cn;rw[hg];simp only;rw[if_neg (by simpa using hkd),if_pos hx]);have Rm:=Um (fun(hx:¬(S.over k≠k∨S.root a.dev=k)) (hy:8≤S.ds.length∨hU b n=false)=>show S.cn k b n=(S,0,3) by unfold Fs.cn;rw[hg];simp only;rw[if_neg (by simpa using hkd),if_neg hx,if_pos hy]);have TV:=Um (fun(hx:¬(S.over k≠k∨S.root a.dev=k)) (hy:¬(8≤S.ds.length∨hU b n=false))=>show S.cn k b n=(S.aF k b n,S.last+1,0) by unfold Fs.cn;rw[hg];simp only;rw[if_neg (by simpa using hkd),if_neg hx,if_neg hy]);have HK:=Um hk;clear h hg hkd hao hno hgc;generalize S.over k=ov at vt Rk Rm TV;generalize S.root a.dev=rt at D4 Rk Rm TV;obtain⟨g,cap,hdv,-,-,-,-,-,-⟩:=oc.o.jm hk.d1;rw[hdv] at pc;clear hk hdv;by_cases h1:ov=k
   ·by_cases h2:rt=k
    ·have HM:=Um (Rk.o (.inr h2));have q3:(ov != k)=false:=by simpa using h1
     have q4:(rt==k)=true:=by simpa using h2
     clear h1 h2;go_enter Tryz.func153,Tryz.ntmps153;go_wp2_with fail;refine fL.o.mono ?_;rintro e w1 ⟨rfl,rfl⟩;go_wp2_with fail;refine HG.o.mono ?_;rintro e w1 ⟨rfl,ar⟩;have aD:=al ar (.cells #[.int .i64 a.no,.int .i64 a.dev,.int .i64 a.kind,.int .i64 a.mode,.int .i64 a.uid,.int .i64 a.gid,.int .i64 a.mtime,.int .i64 a.ctime,.int .i64 a.an,.int .i64 a.up,.string a.data,.slice ea el ec] 99);have B1:=au.new w1 #[.int .i64 a.no,.int .i64 a.dev,.int .i64 a.kind,.int .i64 a.mode,.int .i64 a.uid,.int .i64 a.gid,.int .i64 a.mtime,.int .i64 a.ctime,.int .i64 a.an,.int .i64 a.up,.string a.data,.slice ea el ec] 99;go_wp2_with fail;refine(vt.o _ aD).mono ?_;rintro e w2 ⟨rfl,bJ⟩;obtain⟨bc,-,-⟩:=(B1.ak bJ).facts;have dI:=ao aD bJ;go_wp2_with fail;refine(D4.o _ dI).mono ?_;rintro e w3 ⟨rfl,rfl⟩;go_wp2_with fail;go_ret2;rw[HM.o];exact⟨rfl,R,oc.o.ak dI,aL.aq dI⟩
    ·have hx:¬(ov≠k∨rt=k):=by rintro(h|h);exact h h1;exact h2 h
     have q3:(ov != k)=false:=by simpa using h1
     have q4:(rt==k)=false:=by simpa using h2
     have Rm:=Um (Rm.o hx);have TV:=Um (TV.o hx);clear h1 h2 hx;go_enter Tryz.func153,Tryz.ntmps153;go_wp2_with fail;refine fL.o.mono ?_;rintro e w1 ⟨rfl,rfl⟩;go_wp2_with fail;refine HG.o.mono ?_;rintro e w1 ⟨rfl,ar⟩;have aD:=al ar (.cells #[.int .i64 a.no,.int .i64 a.dev,.int .i64 a.kind,.int .i64 a.mode,.int .i64 a.uid,.int .i64 a.gid,.int .i64 a.mtime,.int .i64 a.ctime,.int .i64 a.an,.int .i64 a.up,.string a.data,.slice ea el ec] 99);have B1:=au.new w1 #[.int .i64 a.no,.int .i64 a.dev,.int .i64 a.kind,.int .i64 a.mode,.int .i64 a.uid,.int .i64 a.gid,.int .i64 a.mtime,.int .i64 a.ctime,.int .i64 a.an,.int .i64 a.up,.string a.data,.slice ea el ec] 99;go_wp2_with fail;refine(vt.o _ aD).mono ?_;rintro e w2 ⟨rfl,bJ⟩;obtain⟨bc,-,-⟩:=(B1.ak bJ).facts;have dI:=ao aD bJ;go_wp2_with fail;refine(D4.o _ dI).mono ?_;rintro e w3 ⟨rfl,rfl⟩;have oh:=Um dI;have pc1:w2.cell? ⟨pw,1,none⟩=_:=(dI.cell (p:=⟨pw,1,none⟩) pz).trans (pc 1);have jc:=Um (oc.o.ak dI);clear pc B1 bc ar aD bJ dI;by_cases h8:8≤S.ds.length
     ·have HM:=Um (Rm.o (.inl h8));have Q6:(8:Int)≤(S.ds.length:Int):=by omega
      generalize S.ds.length=m at pc1 Q6;clear h8;go_wp2_with fail;go_ret2;rw[HM.o];exact⟨rfl,R,jc.o,aL.aq oh.o⟩
     ·have Q6:¬(8:Int)≤(S.ds.length:Int):=by omega
      by_cases hlim:hU b n=true
      ·have HM:=Um (TV.o (by rintro(h|h);exact h8 h;rw[hlim] at h;cases h));have RA:=Um (zI jc.o HK.o.nums HK.o.l0 (by have:=HK.o.lN;omega) (by omega) k b n hlim);have rq:=Um (I3 (S:=S) (N:=0) k b n);have Cl:=Um (KG S k b n);have HDp:=Um (show 0<(S.aF k b n).ds.length by rw[KG];omega);generalize S.aF k b n=S' at HM RA rq Cl HDp;generalize S.ds.length=m at pc1 Q6 rq Cl;clear h8;go_wp2_with fail;refine RA.o.mono ?_;rintro e w4 ⟨rfl,R',ev,fo⟩;have HR:=Um (ag ev ((aL.aq oh.o).trans fo));have hrt:=fM ev HDp.o ((m:Int)+1);rw[rq.o] at hrt;have HRT:=Um hrt;obtain⟨g',cap',hdv',-,-,-,-,-,-⟩:=ev.jm HDp.o;obtain⟨rc,-,-⟩:=ev.bd.facts;rw[hdv',Cl.o] at rc;clear ev fo hrt hdv';go_wp2_with fail;refine HRT.o.mono ?_;rintro e w5 ⟨rfl,rfl⟩;go_wp2_with fail;go_ret2;rw[HM.o];exact⟨rfl,R',HR.o.1,HR.o.2⟩
      ·have hlim':hU b n=false:=by simpa using hlim
       have HM:=Um (Rm.o (.inr hlim'));have RA:=Um (Mb k b n hlim' w2 pw);generalize S.ds.length=m at pc1 Q6;clear h8 hlim hlim';go_wp2_with fail;refine RA.o.mono ?_;rintro e w4 ⟨rfl,b9⟩;have hZ:=Um b9;clear b9;go_wp2_with fail;go_ret2;rw[HM.o];exact⟨rfl,R,jc.o.ak hZ.o,aL.aq (ao oh.o hZ.o)⟩
   ·have HM:=Um (Rk.o (.inl h1));have q3:(ov != k)=true:=by simpa using h1
    clear h1;go_enter Tryz.func153,Tryz.ntmps153;go_wp2_with fail;refine fL.o.mono ?_;rintro e w1 ⟨rfl,rfl⟩;go_wp2_with fail;refine HG.o.mono ?_;rintro e w1 ⟨rfl,ar⟩;have aD:=al ar (.cells #[.int .i64 a.no,.int .i64 a.dev,.int .i64 a.kind,.int .i64 a.mode,.int .i64 a.uid,.int .i64 a.gid,.int .i64 a.mtime,.int .i64 a.ctime,.int .i64 a.an,.int .i64 a.up,.string a.data,.slice ea el ec] 99);go_wp2_with fail;refine(vt.o _ aD).mono ?_;rintro e w2 ⟨rfl,bJ⟩;have dI:=ao aD bJ;go_wp2_with fail;go_ret2;rw[HM.o];exact⟨rfl,R,oc.o.ak dI,aL.aq dI⟩
  ·have q1:(a.kind != 1)=true:=by simpa using hkd
   have HM:=Um (show S.cn k b n=(S,0,9) by unfold Fs.cn;rw[hg];simp only;rw[if_pos hkd]);clear h hk hg hkd hao hno hgc;go_enter Tryz.func153,Tryz.ntmps153;go_wp2_with fail;refine fL.o.mono ?_;rintro e w1 ⟨rfl,rfl⟩;go_wp2_with fail;refine HG.o.mono ?_;rintro e w1 ⟨rfl,ar⟩;go_wp2_with fail;go_ret2;rw[HM.o];exact⟨rfl,R,oc.o.ak (al ar _),aL.aq (al ar _)⟩
theorem Iz(b n:Int)(hlim:hU b n=true)(w:World) :
  Calls Tryz.prog 151 #[.int .i64 b,.int .i64 n] w fun e w'=>∃pw R,e=.returned (.tuple #[.pointer (some ⟨pw,0,none⟩),.int .i64 0])∧bh w' pw R (sK.aF 0 b n)∧Up w w'∧∀k,R.F pw k→w.heap.size≤k:=by
 have HN:=Um (Gt w);go_enter Tryz.func151,Tryz.ntmps151;go_wp2_with fail;refine HN.o.mono ?_;rintro e w1 ⟨rfl,hT,ar⟩;have aD:=al ar (.cells #[.pointer (some ⟨w.heap.size+1,0,none⟩),.slice none 0 0] 188);have hW:bh (w1.alloc (.cells #[.pointer (some ⟨w.heap.size+1,0,none⟩),.slice none 0 0] 188)) w1.heap.size ⟨w.heap.size+1,w.heap.size,.slice none 0 0,[],0⟩ sK:=
  ⟨au.new _ _ _,hT.ak ((Below.refl _ _).alloc (aa _) _),World.ownsRow_nil _ _ _ _,rfl,fun g hg=>by cases hg⟩
 have hF:∀k,Rp.F ⟨w.heap.size+1,w.heap.size,.slice none 0 0,[],0⟩ w1.heap.size k→w.heap.size≤k:=by
  rintro k (hk|hk|hk|hk)
  ·have:=ar.size;omega
  ·simp only at hk;omega
  ·simp only at hk;omega
  ·cases hk
 have RA:=Um (zI hW ⟨List.Pairwise.nil,fun x hx=>by cases hx⟩ (by decide) (by decide) (by decide) 0 b n hlim);have HF:=Um hF;have cV:=Um aD;clear hT ar aD hW hF;go_wp2_with fail;refine RA.o.mono ?_;rintro e w4 ⟨rfl,R',ev,fo⟩;have HR:=Um (ag ev fo);clear ev fo;go_wp2_with fail;go_ret2;exact⟨_,R',rfl,HR.o.1,cV.o.trans (HR.o.2.below HF.o cV.o.size),HR.o.2.aQ HF.o cV.o.size⟩
end
end
end Go.Proofs.YtinflmadpnigfaaGreatDoor
