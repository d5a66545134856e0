import Derived.Deep.CutBlock
import Derived.Deep.DeepCutAuto
import Derived.RegionTactic
import Derived.BigRegion
import Derived.Test.YtabbjaomlmnnhaaGreatCS4
set_option linter.unusedVariables false
set_option linter.unusedSimpArgs false
set_option maxRecDepth 100000
set_option maxHeartbeats 16000000
namespace Go.Proofs.YtabbjaomlmnnhaaGreat
section
open Go.RowKit
section
variable{w w':World}{pw:Nat}{R:Rp}{S:Fs}
theorem Mv(h:bm w pw R S){k:Int}{a:An}(hg:S.get k=some a):∃g∈R.G,g.a=a∧kg (R.G.map Gn.e) k=some g.nd∧aA w g.ea g.el g.ec a.ay:=by
 rw[Kn h] at hg
 cases hf:R.G.find? (fun g=>g.a.no==k) with
 |none=>rw[hf] at hg;cases hg
 |some g=>
  rw[hf] at hg;simp only[Option.map_some,Option.some.injEq] at hg;have hm:=List.mem_of_find?_eq_some hf;refine⟨g,hm,hg,?_,?_⟩
  ·rw[yh,hf];rfl
  ·rw[←hg];exact h.ay g hm
theorem G_no(h:bm w pw R S){k:Int}(hg:S.get k=none):kg (R.G.map Gn.e) k=none:=by
 rw[Kn h] at hg;rw[yh]
 cases hf:R.G.find? (fun g=>g.a.no==k) with
 |none=>rfl
 |some g=>rw[hf] at hg;cases hg
theorem mV(h:bm w pw R S){k:Int}{a:An}(hg:S.get k=some a):∃ea el ec,aA w ea el ec a.ay∧
  Calls Tryz.prog 69 #[.pointer (some ⟨R.pt,0,none⟩),.int .i64 k] w fun e w'=>e=.returned (.tuple #[a.v ea el ec,.bool true])∧Qi w w':=by
 obtain⟨g,-,rfl,hf,he⟩:=Mv h hg;exact⟨g.ea,g.el,g.ec,he,vl g.nd k w R.pt R.pm S.last _ R.ey h.tab hf⟩
theorem fK(h:bm w pw R S){k:Int}(hg:S.get k=none) :
  Calls Tryz.prog 69 #[.pointer (some ⟨R.pt,0,none⟩),.int .i64 k] w fun e w'=>e=.returned (.tuple #[cS.v none 0 0,.bool false])∧Qi w w':=
 LR k w R.pt R.pm S.last _ R.ey h.tab (G_no h hg)
theorem Bp(S:Fs)(k:Int)(hk:0<k)(i:Nat)(hi:i<S.ds.length)(h1:∀j (hj:j<S.ds.length),j<i→S.ds[j].aC≠k)(h2:S.ds[i].aC=k):S.aC k=S.ds[i].root:=by
 unfold Fs.aC;rw[if_pos hk];have:S.ds.find? (fun d=>d.aC==k)=some S.ds[i]:=by
  rw[List.find?_eq_some_iff_getElem];exact⟨by simpa using h2,i,hi,rfl,fun j hj=>by simpa using h1 j (by omega) hj⟩
 rw[this]
theorem tF(S:Fs)(k:Int)(h1:∀j (hj:j<S.ds.length),S.ds[j].aC≠k):S.aC k=k:=by
 unfold Fs.aC
 split
 ·have:S.ds.find? (fun d=>d.aC==k)=none:=by
   rw[List.find?_eq_none];intro d hd;obtain⟨j,hj,rfl⟩:=List.mem_iff_getElem.1 hd;simpa using h1 j hj
  rw[this]
 ·rfl
theorem jA(h:bm w pw R S)(hd:0<S.ds.length)(no:Int) :
  Calls Tryz.prog 67 #[.pointer (some ⟨pw,0,none⟩),.int .i64 no] w fun e w'=>e=.returned (.int .i64 (S.aC no))∧Qi w w':=by
 have HN:=Qf (iu h hd);obtain⟨g,cap,hv,hle,xZ,hg,hc,-,-⟩:=h.kZ hd;obtain⟨pc,-,-⟩:=h.aZ.facts;rw[hv] at pc;have HC:=Qf hc;clear h hv hc;by_cases h0:0<no
 ·have oQ:=Qf (Bp S no h0);have nX:=Qf (tF S no);obtain⟨n,hn⟩:∃n,S.ds.length=n:=⟨_,rfl⟩;have G9:=Qf hn;rw[hn] at pc hle hd;generalize S.aC no=out at oQ nX⊢;clear hn;go_enter Tryz.func67,Tryz.ntmps67;go_wp2_with fail;refine HN.o.mono ?_;rintro e w1 ⟨rfl,rfl⟩;go_wp2_with fail
  go_loopw [19] (fun i wr=>∃k:Nat,k≤n∧i=.int .i64 k∧(∀j (hj:j<S.ds.length),j<k→S.ds[j].aC≠no)∧Qi w wr) (fun i _=>n-(intOf i).toNat)
  case atStart=>exact⟨0,Nat.zero_le _,rfl,fun j _ h=>absurd h (Nat.not_lt_zero _),Below.refl _ _⟩
  case round=>
   obtain⟨k,hk,rfl,hno,hB⟩:=hrel;have iW:=Qf hno;have HB:=Qf hB;clear hno hB;by_cases hlt:k<n
   ·have hkl:k<S.ds.length:=by rw[G9.o];exact hlt
    obtain⟨c0,c1,c2,c3,c4,c5⟩:=HC.o k hkl;rw[←HB.o.cell (p:=⟨g,k*6,none⟩) hg] at c0;rw[←HB.o.cell (p:=⟨g,k*6+1,none⟩) hg] at c1;rw[←HB.o.cell (p:=⟨g,k*6+2,none⟩) hg] at c2;rw[←HB.o.cell (p:=⟨g,k*6+3,none⟩) hg] at c3;rw[←HB.o.cell (p:=⟨g,k*6+4,none⟩) hg] at c4;rw[←HB.o.cell (p:=⟨g,k*6+5,none⟩) hg] at c5;by_cases hov:S.ds[k].aC=no
    ·have HE:=Qf (oQ.o k hkl iW.o hov);have hq:(S.ds[k].aC==no)=true:=by simpa using hov
     clear hov;generalize S.ds[k]=v at c0 c1 c2 c3 c4 c5 hq HE;go_wp2_with fail;go_ret;exact⟨by rw[HE.o];rfl,aq HB.o _⟩
    ·have hq:(S.ds[k].aC==no)=false:=by simpa using hov
     have A6:=Qf (show∀j (hj:j<S.ds.length),j<k+1→S.ds[j].aC≠no from fun j hj hjk=>by
      by_cases e:j=k
      ·subst e;exact hov
      ·exact iW.o j hj (by omega))
     clear hov;generalize S.ds[k]=v at c0 c1 c2 c3 c4 c5 hq;go_wp2_with fail;go_roundw
     case rel=>exact⟨k+1,by omega,by go_num,A6.o,aq HB.o _⟩
     case measure=>simp[intOf];omega
   ·obtain rfl:k=n:=by omega
    have HE:=Qf (nX.o (fun j hj=>iW.o j hj (by rw[←G9.o];exact hj)));go_wp2_with fail;go_ret;exact⟨by rw[HE.o];rfl,HB.o⟩
 ·have hO:S.aC no=no:=by unfold Fs.aC;rw[if_neg h0]
  rw[hO];generalize S.ds.length=n at pc hle hd;go_enter Tryz.func67,Tryz.ntmps67;go_wp2_with fail;refine HN.o.mono ?_;rintro e w1 ⟨rfl,rfl⟩;go_wp2_with fail;go_ret;exact⟨rfl,Below.refl _ _⟩
theorem qp(h:bm w pw R S){N:Nat}(hk:ax S N)(no:Int) :
  Calls Tryz.prog 141 #[.pointer (some ⟨pw,0,none⟩),.int .i64 no] w fun e w'=>e=.returned (.int .i64 (S.aX no))∧Qi w w':=by
 have HW:=Qf h;have HK:=Qf hk;have HN:=Qf (iu h hk.d1);obtain⟨pc,-,-⟩:=h.aZ.facts;have mixed:Tryz.prog.follows .mixedOrders=true:=by kernel_rfl
 cases hg:S.get no with
 |none=>
  have HA:=Qf (show S.aX no=0 by unfold Fs.aX;rw[hg]);have HG:=Qf (fK h hg);unfold An.v cS at HG;clear h hk hg;go_enter Tryz.func141,Tryz.ntmps141;go_wp2_with fail;refine HN.o.mono ?_;rintro e w1 ⟨rfl,rfl⟩;go_wp2_with fail;refine HG.o.mono ?_;rintro e w1 ⟨rfl,av⟩;go_wp2_with fail;go_ret;exact⟨by rw[HA.o];rfl,aq av _⟩
 |some a=>
  obtain⟨hao,-,h1,-⟩:=hk.get hg;obtain⟨ea,el,ec,-,hgc⟩:=mV h hg;have HG:=Qf hgc;unfold An.v at HG;by_cases hkd:a.kind=1
  ·by_cases hr:S.root a.dev=no∧1<a.dev
   ·obtain⟨v,hv,hrv,-,-⟩:=j4 hk hao.dev.1 hao.dev.2;obtain⟨g,cap,hdv,hle,xZ,hgl,hc,-,-⟩:=h.kZ hk.d1;rw[hdv] at pc;obtain⟨k,Lf⟩:∃k:Nat,a.dev=(k:Int)+1:=⟨(a.dev-1).toNat,by have:=hao.dev.1;omega⟩;have hkl:k<S.ds.length:=by have:=hao.dev.2;omega
    have hvk:S.ds[k]=v:=by
     unfold Fs.dev at hv;rw[if_pos (by omega),Lf,show((k:Int)+1-1).toNat=k by omega,List.getElem?_eq_getElem hkl] at hv;simpa using hv
    have cc:=(hc k hkl).c1;rw[hvk] at cc;have hrt:S.root a.dev=no:=hr.1;have HR:=Qf (fun w1 (av:Qi w w1)=>fp (h.ak av) hk.d1 a.dev);rw[hrt] at HR;have HA:=Qf (show S.aX no=(match S.get v.aC with|none=>0|some b=>b.up) by
     unfold Fs.aX;rw[hg];simp only;rw[if_neg (by simpa using hkd),if_pos hr,hv];rfl)
    have h3:1<a.dev:=hr.2;have hgd:=hao.dev.1;have hpz:=h.aZ.lt;rw[Lf] at h3 HG HR;obtain⟨n,hn⟩:∃n,S.ds.length=n:=⟨_,rfl⟩;rw[hn] at pc hle;have hkn:k<n:=by omega
    have gD:(a.kind==1)=true:=by simpa using hkd
    have ij:(a.kind != 1)=false:=by simpa using hkd
    have HD:=Qf (fun w1 (av:Qi w w1)=>ag (fun(hgv:S.get v.aC=none)=>fK (h.ak av) hgv) (fun b (hgv:S.get v.aC=some b)=>mV (h.ak av) hgv));clear h hk hg hao hgc hc hv hrv hr hrt hdv hvk hn Lf hgd hkl hkd;go_enter Tryz.func141,Tryz.ntmps141;go_wp2_with fail;refine HN.o.mono ?_;rintro e w1 ⟨rfl,rfl⟩;go_wp2_with fail;refine HG.o.mono ?_;rintro e w1 ⟨rfl,av⟩;have B1:=aw.new w1 #[.int .i64 a.no,.int .i64 ((k:Int)+1),.int .i64 a.kind,.int .i64 a.mode,.int .i64 a.uid,.int .i64 a.gid,.int .i64 a.mtime,.int .i64 a.ctime,.int .i64 a.ao,.int .i64 a.up,.string a.data,.slice ea el ec] 149;have aS:=aq av (.cells #[.int .i64 a.no,.int .i64 ((k:Int)+1),.int .i64 a.kind,.int .i64 a.mode,.int .i64 a.uid,.int .i64 a.gid,.int .i64 a.mtime,.int .i64 a.ctime,.int .i64 a.ao,.int .i64 a.up,.string a.data,.slice ea el ec] 149);have sE:=HR.o _ aS;go_wp2_with fail;refine sE.mono ?_;rintro e w2 ⟨rfl,rfl⟩;generalize w1.alloc _=W at B1 aS sE⊢;have F6:=av.size;generalize w1.heap.size=Bn at B1 F6⊢;obtain⟨bc,bf,bz⟩:=B1.facts;rw[←aS.cell (p:=⟨g,k*6+1,none⟩) hgl] at cc;have Ed:=Qf (aS.cell (p:=⟨pw,0,none⟩) hpz);have pc0:W.cell? ⟨pw,0,none⟩=_:=(aS.cell (p:=⟨pw,0,none⟩) hpz).trans (pc 0);have pc1:W.cell? ⟨pw,1,none⟩=_:=(aS.cell (p:=⟨pw,1,none⟩) hpz).trans (pc 1);go_wp2_with fail;have sD:IntKind.i64.wrap ((k:Int)+1-1)=(k:Int):=by rw[IntKind.wrap_i64];omega
    have yX:IntKind.i64.wrap (k:Int)=(k:Int):=by rw[IntKind.wrap_i64];omega
    have bK:(k:Int)<(n:Int):=by omega
    have cZ:(0:Int)≤(k:Int):=by omega
    refine aG 14 mixed (by kernel_rfl) eX ?_;simp only[List.take_succ_cons,List.take_zero,List.drop_succ_cons,List.drop_zero]
    repeat still_step
    refine wpStill_nil ?_
    cases hgv:S.get v.aC with
    |none=>
     rw[hgv] at HA;have HC:=Qf (((HD.o W.drew aS.drew).1 hgv));unfold An.v cS at HC;clear hgv HD;go_wp2_with fail;refine HC.o.mono ?_;rintro e w2 ⟨rfl,bK⟩;obtain⟨bc3,bf3,bz3⟩:=(B1.drew.ak bK).facts;have cZ:=au aS.drew bK;go_wp2_with fail;go_ret;exact⟨by rw[HA.o];rfl,by(repeat (refine Below.setCell ?_ F6 _));exact cZ⟩
    |some b=>
     rw[hgv] at HA;obtain⟨ea2,el2,ec2,-,Ox⟩:=(HD.o W.drew aS.drew).2 b hgv;have HC:=Qf Ox;unfold An.v at HC;clear hgv HD Ox;go_wp2_with fail;refine HC.o.mono ?_;rintro e w2 ⟨rfl,bK⟩;obtain⟨bc3,bf3,bz3⟩:=(B1.drew.ak bK).facts;have cZ:=au aS.drew bK;go_wp2_with fail;go_ret;exact⟨by rw[HA.o];rfl,by(repeat (refine Below.setCell ?_ F6 _));exact cZ⟩
   ·have HA:=Qf (show S.aX no=a.up by unfold Fs.aX;rw[hg];simp only;rw[if_neg (by simpa using hkd),if_neg hr]);have HR:=Qf (fun w1 (av:Qi w w1)=>fp (h.ak av) hk.d1 a.dev);have gD:(a.kind==1)=true:=by simpa using hkd
    have ij:(a.kind != 1)=false:=by simpa using hkd
    clear h hk hg hao hgc hkd;obtain⟨rt,hrt⟩:∃rt,S.root a.dev=rt:=⟨_,rfl⟩;rw[hrt] at HR hr;by_cases h2:rt=no
    ·have h3:¬1<a.dev:=fun h3=>hr ⟨h2,h3⟩;have h4:(rt==no)=true:=by simpa using h2
     clear hr h2 hrt;go_enter Tryz.func141,Tryz.ntmps141;go_wp2_with fail;refine HN.o.mono ?_;rintro e w1 ⟨rfl,rfl⟩;go_wp2_with fail;refine HG.o.mono ?_;rintro e w1 ⟨rfl,av⟩;have sE:=HR.o _ (aq av (.cells #[.int .i64 a.no,.int .i64 a.dev,.int .i64 a.kind,.int .i64 a.mode,.int .i64 a.uid,.int .i64 a.gid,.int .i64 a.mtime,.int .i64 a.ctime,.int .i64 a.ao,.int .i64 a.up,.string a.data,.slice ea el ec] 149));go_wp2_with fail;refine sE.mono ?_;rintro e w2 ⟨rfl,rfl⟩;go_wp2_with fail;go_ret;exact⟨by rw[HA.o];rfl,aq av _⟩
    ·have h4:(rt==no)=false:=by simpa using h2
     clear hr h2 hrt;go_enter Tryz.func141,Tryz.ntmps141;go_wp2_with fail;refine HN.o.mono ?_;rintro e w1 ⟨rfl,rfl⟩;go_wp2_with fail;refine HG.o.mono ?_;rintro e w1 ⟨rfl,av⟩;have sE:=HR.o _ (aq av (.cells #[.int .i64 a.no,.int .i64 a.dev,.int .i64 a.kind,.int .i64 a.mode,.int .i64 a.uid,.int .i64 a.gid,.int .i64 a.mtime,.int .i64 a.ctime,.int .i64 a.ao,.int .i64 a.up,.string a.data,.slice ea el ec] 149));go_wp2_with fail;refine sE.mono ?_;rintro e w2 ⟨rfl,rfl⟩;go_wp2_with fail;go_ret;exact⟨by rw[HA.o];rfl,aq av _⟩
  ·have HA:=Qf (show S.aX no=0 by unfold Fs.aX;rw[hg];simp only;rw[if_pos hkd]);clear h hk hg hao hgc;go_enter Tryz.func141,Tryz.ntmps141;go_wp2_with fail;refine HN.o.mono ?_;rintro e w1 ⟨rfl,rfl⟩;go_wp2_with fail;refine HG.o.mono ?_;rintro e w1 ⟨rfl,av⟩;go_wp2_with fail;go_ret;exact⟨by rw[HA.o];rfl,aq av _⟩
end
end
section
open Go.RowKit
theorem ft{w:World}{base sz n g cap:Nat}{e:TypeId}{xs:List Value}(h:w.ownsRow base e sz (.slice (some ⟨g,0,none⟩) n cap) n xs)(j:Nat)(hj:j<xs.length)(v:Value) :
  (w.setCell ⟨g,j,none⟩ v).ownsRow base e sz (.slice (some ⟨g,0,none⟩) n cap) n (xs.set j v):=by
 rcases h.2 with⟨hv,-⟩|⟨g',cap',cur,hv,hb,hg,h1,h2,h3,h4⟩
 ·cases hv
 ·injection hv with e1 e2 e3;injection e1 with e1;injection e1 with e1;subst e1 e3;refine⟨by rw[List.length_set];exact h.1,.inr ⟨g,cap,_,rfl,hb,aw.set hg j v,h1,h2,by rw[Array.size_setIfInBounds];exact h3,?_⟩⟩;rw[Array.toList_setIfInBounds,List.take_set,h4]
section
variable{w w':World}{pw:Nat}{R:Rp}{S:Fs}
theorem oD(ds:List Dv):(ds.flatMap Dv.cs).length=ds.length*6:=bW Dv.fF ds
theorem bm.KN(h:bm w pw R S){g cap:Nat}(hdv:R.dv=.slice (some ⟨g,0,none⟩) S.ds.length cap){k:Nat}(hk:k<S.ds.length)(v:Dv)(hv:S.ds[k]=v)(b n:Int) :
  bm ((((w.setCell ⟨g,k*6+2,none⟩ (.int .i64 b)).setCell ⟨g,k*6+3,none⟩ (.int .i64 n)).setCell ⟨g,k*6+4,none⟩ (.int .i64 v.mb)).setCell ⟨g,k*6+5,none⟩ (.int .i64 v.mn)) pw R
   (S.bp ((k:Int)+1) {v with b:=b,n:=n})∧
  Mod (fun x=>x=g) w ((((w.setCell ⟨g,k*6+2,none⟩ (.int .i64 b)).setCell ⟨g,k*6+3,none⟩ (.int .i64 n)).setCell ⟨g,k*6+4,none⟩ (.int .i64 v.mb)).setCell ⟨g,k*6+5,none⟩ (.int .i64 v.mn)):=by
 have hm:Mod (fun x=>x=g) w ((((w.setCell ⟨g,k*6+2,none⟩ (.int .i64 b)).setCell ⟨g,k*6+3,none⟩ (.int .i64 n)).setCell ⟨g,k*6+4,none⟩ (.int .i64 v.mb)).setCell ⟨g,k*6+5,none⟩ (.int .i64 v.mn)):=
  ((((Mod.refl (fun x=>x=g) w).setCell (a:=⟨g,k*6+2,none⟩) (.inl rfl) _).setCell (a:=⟨g,k*6+3,none⟩) (.inl rfl) _).setCell (a:=⟨g,k*6+4,none⟩) (.inl rfl) _).setCell (a:=⟨g,k*6+5,none⟩) (.inl rfl) _
 refine⟨?_,hm⟩;obtain⟨g',cap',hdv',-,-,-,-,-,cur,hcur⟩:=h.kZ (by omega);have e:=hdv.symm.trans hdv';injection e with e;injection e with e;injection e with e;subst e;have hne:∀(x:Nat) (vs:Array Value) (T:TypeId),aw w x vs T→T≠194→x≠g:=by
  rintro x vs T hx hT rfl;unfold aw at hx hcur;rw[hcur] at hx;injection hx with hx;injection hx with _ hx;exact hT hx.symm
 have h1:=hne _ _ _ h.aZ (by decide);have h2:=hne _ _ _ h.tab.aZ (by decide);have h3:R.pm≠g:=by
  rintro e;have hm:=h.tab.map;unfold dF at hm;rw[e] at hm;unfold aw at hcur;rw[hcur] at hm
  cases hm
 have hl:(S.bp ((k:Int)+1) {v with b:=b,n:=n}).ds=S.ds.set k {v with b:=b,n:=n}:=by
  unfold Fs.bp;rw[show((k:Int)+1-1).toNat=k by omega]
 refine⟨h.aZ.mod hm h1,⟨h.tab.aZ.mod hm h2,(hm.block _ h.tab.map.lt h3).trans h.tab.map,h.tab.once,h.tab.low⟩,?_,h.ns,fun x hx=>(h.ay x hx).fH (fun bk cr hc=>hm.block bk (Array.getElem?_eq_some_iff.1 hc).1 (hne bk cr _ hc (by decide))) hm.size⟩;rw[hl,List.length_set];have h0:=h.eN;rw[hdv] at h0⊢;have hkl:k*6+5<(S.ds.flatMap Dv.cs).length:=by rw[oD];omega
 have p1:=ft h0 (k*6+2) (by omega) (.int .i64 b);have p2:=ft p1 (k*6+3) (by rw[List.length_set];omega) (.int .i64 n);have p3:=ft p2 (k*6+4) (by rw[List.length_set,List.length_set];omega) (.int .i64 v.mb);have p4:=ft p3 (k*6+5) (by rw[List.length_set,List.length_set,List.length_set];omega) (.int .i64 v.mn);have hs:=gJ Dv.fF ({v with b:=b,n:=n}:Dv) S.ds k hk;rw[←hs];have c0:(S.ds.flatMap Dv.cs)[k*6]?=some (.int .i64 v.root):=by
  have:=gP Dv.fF S.ds k 0 hk (by omega);rw[Nat.add_zero] at this;rw[this,hv];rfl
 have c1:(S.ds.flatMap Dv.cs)[k*6+1]?=some (.int .i64 v.aC):=by
  rw[gP Dv.fF S.ds k 1 hk (by omega),hv];rfl
 have e0:(S.ds.flatMap Dv.cs).set (k*6) (.int .i64 v.root)=S.ds.flatMap Dv.cs:=by
  have hlt:k*6<(S.ds.flatMap Dv.cs).length:=by omega
  rw[List.getElem?_eq_getElem hlt] at c0;injection c0 with c0;rw[←c0,List.set_getElem_self]
 have e1:(S.ds.flatMap Dv.cs).set (k*6+1) (.int .i64 v.aC)=S.ds.flatMap Dv.cs:=by
  have hlt:k*6+1<(S.ds.flatMap Dv.cs).length:=by omega
  rw[List.getElem?_eq_getElem hlt] at c1;injection c1 with c1;rw[←c1,List.set_getElem_self]
 show World.ownsRow _ 0 194 6 _ _ ((((((((S.ds.flatMap Dv.cs).set (k*6) (.int .i64 v.root)).set (k*6+1) (.int .i64 v.aC)).set (k*6+2) (.int .i64 b)).set (k*6+3) (.int .i64 n)).set (k*6+4) (.int .i64 v.mb)).set (k*6+5) (.int .i64 v.mn)));rw[e0,e1];exact p4
theorem bm.Pw(h:bm w pw R S)(a:An){ea:Option Addr}{el ec:Nat}(he:aA w ea el ec a.ay)(eR:0≤S.last)(pV:S.last≤1000000) :
  Calls Tryz.prog 150 #[.pointer (some ⟨R.pt,0,none⟩),a.v ea el ec] w fun e w'=>e=.returned (.int .i64 (S.last+1))∧∃R',bm w' pw R' (S.add a)∧aR (R.F pw) (R'.F pw) w w'∧R'.pt=R.pt∧R'.dv=R.dv:=by
 refine(JE (a.nd ea el ec) w R.pt R.pm S.last _ R.ey h.tab eR pV).mono ?_;rintro e w' ⟨rfl,hT,hM⟩;have hM':Mod (R.F pw) w w':=hM.mono (fun k hk=>hk.elim (fun e=>.inr (.inl e)) (fun e=>.inr (.inr (.inl e))));have hst:aR (R.F pw) (R.F pw) w w':=aR.cQ hM';have hnw:pw≠R.pt:=by
  intro e;have h1:=h.aZ;have h2:=h.tab.aZ;rw[e] at h1;unfold aw at h1 h2;rw[h1] at h2;injection h2 with h2;injection h2 with _ h2;revert h2;decide
 have hnm:pw≠R.pm:=by
  intro e;have h1:=h.aZ;have h2:=h.tab.map;rw[e] at h1;unfold aw at h1;unfold dF at h2;rw[h1] at h2
  cases h2
 refine⟨rfl,⟨R.pt,R.pm,R.dv,R.G++[⟨{a with no:=S.last+1},ea,el,ec,R.ey⟩],R.ey+1⟩,⟨h.aZ.mod hM (fun e=>e.elim hnw hnm),?_,?_,?_,?_⟩,⟨hM',fun k hk=>.inl hk⟩,rfl,rfl⟩
 ·show zi w' R.pt R.pm (S.last+1) ((R.G++[_]).map Gn.e) (R.ey+1);rw[List.map_append];exact hT
 ·refine⟨h.eN.1,h.eN.2.imp id fun⟨g,cap,cur,h1,h2,hg,h3⟩=>⟨g,cap,cur,h1,h2,(hM.block g (Array.getElem?_eq_some_iff.1 hg).1 ?_).trans hg,h3⟩⟩;rintro(e|e)
  ·subst e;have h2:=h.tab.aZ;unfold aw at h2;rw[hg] at h2;injection h2 with h2;injection h2 with _ h2;revert h2;decide
  ·subst e;have h2:=h.tab.map;unfold dF at h2;rw[hg] at h2
   cases h2
 ·show S.ns++[_]=(R.G++[_]).map (fun g:Gn=>g.a);rw[List.map_append,←h.ns];rfl
 ·intro g hg;rcases List.mem_append.1 hg with hg|hg
  ·exact(h.ay g hg).wd h hst
  ·simp only[List.mem_cons,List.not_mem_nil,or_false] at hg;subst hg;exact he.wd h hst
end
end
section
open Go.RowKit
section
variable{w w':World}{pw:Nat}{R:Rp}{S:Fs}
theorem tK{S:Fs}{a:An}(h:S.root a.dev=0):S.make a=(S,0,1):=by unfold Fs.make;rw[if_pos h]
theorem xx{S:Fs}{a:An}{v:Dv}(h:S.root a.dev≠0)(hv:S.dev a.dev=some v)(he:kE v.b v.n v.mb v.mn (cR a.kind a.data.size) 1≠0):S.make a=(S,0,kE v.b v.n v.mb v.mn (cR a.kind a.data.size) 1):=by
 unfold Fs.make;rw[if_neg h,hv];simp only;rw[if_neg he]
theorem Bu{S:Fs}{a:An}{v:Dv}(h:S.root a.dev≠0)(hv:S.dev a.dev=some v)(he:kE v.b v.n v.mb v.mn (cR a.kind a.data.size) 1=0) :
  S.make a=((S.bp a.dev {v with b:=v.b+cR a.kind a.data.size,n:=v.n+1}).add a,S.last+1,0):=by
 unfold Fs.make;rw[if_neg h,hv];simp only;rw[if_pos he]
theorem zk(h:bm w pw R S)(hd:0<S.ds.length)(a:An)(ea:Option Addr)(el ec:Nat)(hr:S.root a.dev=0) :
  Calls Tryz.prog 108 #[.pointer (some ⟨pw,0,none⟩),a.v ea el ec] w fun e w'=>e=.returned (.tuple #[.int .i64 0,.int .i64 1])∧Qi w w':=by
 have HR:=Qf (fp (h.ak ((Below.refl _ w).alloc (aa _) (.cells #[.int .i64 a.no,.int .i64 a.dev,.int .i64 a.kind,.int .i64 a.mode,.int .i64 a.uid,.int .i64 a.gid,.int .i64 a.mtime,.int .i64 a.ctime,.int .i64 a.ao,.int .i64 a.up,.string a.data,.slice ea el ec] 149))) hd a.dev);rw[hr] at HR;unfold An.v;clear h hd hr;go_enter Tryz.func108,Tryz.ntmps108;go_wp2_with fail;refine HR.o.mono ?_;rintro e w1 ⟨rfl,rfl⟩;go_wp2_with fail;go_ret2;exact⟨rfl,aq (Below.refl _ _) _⟩
theorem BW(h:bm w pw R S){k:Nat}(hk:k<S.ds.length)(a:An)(ea:Option Addr)(el ec:Nat)(he:aA w ea el ec a.ay)(hdev:a.dev=(k:Int)+1)(hr:S.root a.dev≠0)(hs:a.data.size≤9223372036854775807)(eR:0≤S.last)(pV:S.last≤1000000) :
  Calls Tryz.prog 108 #[.pointer (some ⟨pw,0,none⟩),a.v ea el ec] w fun e w'=>e=.returned (.tuple #[.int .i64 (S.make a).2.1,.int .i64 (S.make a).2.2])∧∃R',bm w' pw R' (S.make a).1∧aR (R.F pw) (R'.F pw) w w':=by
 have HR:=Qf (fp (h.ak ((Below.refl _ w).alloc (aa _) (.cells #[.int .i64 a.no,.int .i64 a.dev,.int .i64 a.kind,.int .i64 a.mode,.int .i64 a.uid,.int .i64 a.gid,.int .i64 a.mtime,.int .i64 a.ctime,.int .i64 a.ao,.int .i64 a.up,.string a.data,.slice ea el ec] 149))) (by omega) a.dev);obtain⟨g,cap,hdv,hle,xZ,hgl,hc,hfg,-⟩:=h.kZ (by omega);obtain⟨c0,c1,c2,c3,c4,c5⟩:=hc k hk;obtain⟨v,hv⟩:∃v,S.ds[k]=v:=⟨_,rfl⟩;rw[hv] at c0 c1 c2 c3 c4 c5;obtain⟨pc,-,pz⟩:=h.aZ.facts;rw[hdv] at pc;obtain⟨rt,hrt⟩:∃rt,S.root a.dev=rt:=⟨_,rfl⟩;have hrn:=hr;rw[hrt] at HR hr;have sG:S.dev a.dev=some v:=by
  unfold Fs.dev;rw[if_pos (by omega),hdev,show((k:Int)+1-1).toNat=k by omega,List.getElem?_eq_getElem hk,hv]
 obtain⟨n,hn⟩:∃n,S.ds.length=n:=⟨_,rfl⟩;have hkn:k<n:=by omega
 rw[hn] at pc hle;have pB:(rt==0)=false:=by simpa using hr
 have hT:=fun w=>wv v.b v.n v.mb v.mn (cR a.kind a.data.size) 1 w;unfold Hy at hT;have HB:=Qf (fun w=>AV a.kind a.data.size (by omega) w);have yP:=Qf (fun(vR:kE v.b v.n v.mb v.mn (cR a.kind a.data.size) 1≠0)=>xx hrn sG vR);have p':=Qf (fun(vR:kE v.b v.n v.mb v.mn (cR a.kind a.data.size) 1=0)=>Bu hrn sG vR);have HQ:=Qf (fun(vR:kE v.b v.n v.mb v.mn (cR a.kind a.data.size) 1=0)=>show ED v.b v.n v.mb v.mn (cR a.kind a.data.size) 1=v.b+cR a.kind a.data.size∧EC v.b v.n v.mb v.mn (cR a.kind a.data.size) 1=v.n+1 by unfold ED EC;rw[if_pos vR,if_pos vR];exact⟨rfl,rfl⟩);have mL:=Qf h;have lQ:=Qf he;have lR:=Qf hdv;have HV:=Qf (show∃hk:k<S.ds.length,S.ds[k]=v from⟨hk,hv⟩);have Gw:=Qf hdev;unfold An.v;rw[hdev] at HR⊢;have B1:=aw.new w #[.int .i64 a.no,.int .i64 ((k:Int)+1),.int .i64 a.kind,.int .i64 a.mode,.int .i64 a.uid,.int .i64 a.gid,.int .i64 a.mtime,.int .i64 a.ctime,.int .i64 a.ao,.int .i64 a.up,.string a.data,.slice ea el ec] 149;have av:=(Qj w).alloc (aa _) (.cells #[.int .i64 a.no,.int .i64 ((k:Int)+1),.int .i64 a.kind,.int .i64 a.mode,.int .i64 a.uid,.int .i64 a.gid,.int .i64 a.mtime,.int .i64 a.ctime,.int .i64 a.ao,.int .i64 a.up,.string a.data,.slice ea el ec] 149);clear h hr hrn hrt hn hv hc hdv sG he hk hdev c0 c1;generalize cR a.kind a.data.size=bk at hT HB yP p' HQ;generalize kE v.b v.n v.mb v.mn bk 1=e0 at hT yP p' HQ;generalize ED v.b v.n v.mb v.mn bk 1=qb at hT HQ;generalize EC v.b v.n v.mb v.mn bk 1=qn at hT HQ;have HT:=Qf hT;clear hT;go_enter Tryz.func108,Tryz.ntmps108;go_wp2_with fail;refine HR.o.mono ?_;rintro e w1 ⟨rfl,rfl⟩;generalize w.alloc _=W at B1 av⊢;obtain⟨Bn,F6⟩:∃Bn,w.heap.size=Bn:=⟨_,rfl⟩;rw[F6] at B1⊢;obtain⟨bc,bf,bz⟩:=B1.facts;rw[←av.cell (p:=⟨g,k*6+2,none⟩) hgl] at c2;rw[←av.cell (p:=⟨g,k*6+3,none⟩) hgl] at c3;rw[←av.cell (p:=⟨g,k*6+4,none⟩) hgl] at c4;rw[←av.cell (p:=⟨g,k*6+5,none⟩) hgl] at c5;have pc1:W.cell? ⟨pw,1,none⟩=_:=(av.cell (p:=⟨pw,1,none⟩) pz).trans (pc 1);have I0:g<W.heap.size:=Nat.lt_of_lt_of_le hgl av.size;have hpW:pw<W.heap.size:=Nat.lt_of_lt_of_le pz av.size;have HW:=Qf av;have dO:=Qf B1;have HBn:=Qf F6;clear pc av B1 F6;go_upto_region 3 with(fail)
 go_cut [6,7] (fun t6 t7 wx=>∃Bq:Nat,t6=.pointer (some ⟨Bq,0,none⟩)∧t7=.int .i64 e0∧aw wx Bq #[.int .i64 qb,.int .i64 qn,.int .i64 v.mb,.int .i64 v.mn] 192∧Qi W wx)
 case first=>
  go_wp2_with fail;have sD:IntKind.i64.wrap ((k:Int)+1-1)=(k:Int):=by rw[IntKind.wrap_i64];omega
  have yX:IntKind.i64.wrap (k:Int)=(k:Int):=by rw[IntKind.wrap_i64];omega
  have bK:(k:Int)<(n:Int):=by omega
  have cZ:(0:Int)≤(k:Int):=by omega
  have hzz:W.heap.size≤W.heap.size:=aa _
  go_region_held3 (fun w'=>(∀b o,b<W.heap.size→w'.cell? ⟨b,o,none⟩=W.cell? ⟨b,o,none⟩)∧Qi W w') (first|with_reducible assumption|with_reducible exact dJ _|with_reducible exact cV _|with_reducible exact dg (by assumption) (by assumption)|with_reducible exact cO (by assumption) _|with_reducible exact cL (by assumption) _|with_reducible exact cq (by assumption) (by assumption)|with_reducible exact dI (by assumption) (by assumption))
   (first|(go_at_call 149;((with_reducible refine(HB.o _).mono ?_);rintro e w4 ⟨rfl,rfl⟩))|(go_at_call 148;((with_reducible refine(HT.o _).mono ?_);rintro e w4 ⟨rfl,bU⟩;have hz5:=ae (And.right ‹(∀b o,b<W.heap.size→_)∧Qi W _›).size bU.size;try (have hbq:=jF bU;obtain⟨bqc,bqf,bqz⟩:=hbq.facts))))
  all_goals
   obtain⟨-,nt⟩:=‹_∧Qi W _›;have Ea:=Qf nt
   try (have Eb:=Qf hbq)
   clear nt;go_wp2_with fail;go_meet;exact⟨_,rfl,rfl,by first|exact Eb.o.cM|exact aw.new _ _ _,Ea.o⟩
 case rest=>
  obtain⟨Bq,rfl,rfl,hQ,hS⟩:=hcut;have HS:=Qf hS;have DW:=Qf (show Qi w wc from HW.o.trans (hS.mono HW.o.size));by_cases h0:e0=0
  ·obtain⟨hk,hv⟩:=HV.o;obtain⟨rfl,rfl⟩:=HQ.o h0;have jR:=Qf (p'.o h0);subst h0;obtain⟨qc,qf,qz⟩:=hQ.facts;have pcw:wc.cell? ⟨pw,1,none⟩=_:=(hS.cell (p:=⟨pw,1,none⟩) hpW).trans pc1;have bcw:wc.cell? ⟨Bn,1,none⟩=_:=(hS.cell (p:=⟨Bn,1,none⟩) bz).trans (bc 1);rw[←hS.cell (p:=⟨g,k*6+2,none⟩) I0] at c2;rw[←hS.cell (p:=⟨g,k*6+3,none⟩) I0] at c3;rw[←hS.cell (p:=⟨g,k*6+4,none⟩) I0] at c4;rw[←hS.cell (p:=⟨g,k*6+5,none⟩) I0] at c5;have hfw:∀i,wc.frozen? ⟨g,i,none⟩=false:=fun i=>(DW.o.frozen (p:=⟨g,i,none⟩) hgl).trans (hfg i);have Kf:=mL.o.ak DW.o;obtain⟨OQ,MS⟩:=Kf.KN lR.o hk v hv (v.b+bk) (v.n+1);have hgF:R.F pw g:=.inr (.inr (.inr (by rw[lR.o];rfl)));have xU:aR (R.F pw) (R.F pw) wc _:=aR.cQ (MS.mono (fun x hx=>by rw[hx];exact hgF));have HEq:=Qf ((lQ.o.ak DW.o).wd Kf xU);have Ph:=(dO.o.ak hS).wd Kf xU rfl;have L2:=Qf OQ;have ji:=Qf ((aR.ar DW.o).trans xU);clear Kf OQ MS xU pc1 hfg;go_wp2_with fail;have mixed:Tryz.prog.follows .mixedOrders=true:=by kernel_rfl
   have sD:IntKind.i64.wrap ((k:Int)+1-1)=(k:Int):=by rw[IntKind.wrap_i64];omega
   have yX:IntKind.i64.wrap (k:Int)=(k:Int):=by rw[IntKind.wrap_i64];omega
   have bK:(k:Int)<(n:Int):=by omega
   have cZ:(0:Int)≤(k:Int):=by omega
   refine aG 8 mixed (by kernel_rfl) eX ?_;simp only[List.take_succ_cons,List.take_zero,List.drop_succ_cons,List.drop_zero]
   repeat still_step
   refine wpStill_nil ?_;go_wp2_with fail;generalize (((wc.setCell ⟨g,k*6+2,none⟩ (.int .i64 (v.b+bk))).setCell ⟨g,k*6+3,none⟩ (.int .i64 (v.n+1))).setCell ⟨g,k*6+4,none⟩ (.int .i64 v.mb)).setCell ⟨g,k*6+5,none⟩ (.int .i64 v.mn)=X at HEq Ph L2 ji⊢;obtain⟨xc,-,xz⟩:=L2.o.aZ.facts;obtain⟨bc,bf,bz⟩:=Ph.facts;clear c2 c3 c4 c5 hfw pcw bcw qc qf qz;refine aG 5 mixed (by kernel_rfl) eX ?_;simp only[List.take_succ_cons,List.take_zero,List.drop_succ_cons,List.drop_zero]
   repeat still_step
   refine wpStill_nil ?_;have xS:Qi X X.drew.drew:=((Below.refl _ X).drew).drew;have hAdd:=(L2.o.ak xS).Pw a (HEq.o.ak xS) eR pV;unfold An.v at hAdd;rw[Gw.o] at hAdd;have HAdd:=Qf hAdd;clear hAdd;go_wp2_with fail;refine HAdd.o.mono ?_;rintro e w5 ⟨rfl,R',eh,dq,-,-⟩;have Nn:=Qf (ag eh dq);clear eh dq;go_wp2_with fail;go_ret2;rw[jR.o];refine⟨rfl,R',?_,(ji.o.trans (aR.ar xS)).trans Nn.o.2⟩;rw[Gw.o];exact Nn.o.1
  ·have jR:=Qf (yP.o h0);have mP:(e0 != 0)=true:=by simpa using h0
   clear h0;go_wp2_with fail;go_ret2;rw[jR.o];exact⟨rfl,R,mL.o.ak DW.o,aR.ar DW.o⟩
end
end
section
open Go.RowKit
theorem aD{w:World}{base sz n k:Nat}{e:TypeId}{v:Value}{xs:List Value}(h:w.ownsRow base e sz v n xs)(hk:v.ownBlock=some k):base≤k∧∃cur,w.heap[k]?=some (.cells cur e (0,0)):=by
 rcases h.2 with⟨rfl,-⟩|⟨g,cap,cur,rfl,hb,hg,-⟩
 ·cases hk
 ·simp only[Value.ownBlock,Option.some.injEq] at hk;subst hk;exact⟨hb,cur,hg⟩
section
variable{w w':World}{pw:Nat}{R:Rp}{S:Fs}
theorem bm.Ia(h:bm w pw R S)(hM:Mod (fun k=>k=R.pt∨k=R.pm) w w'):aR (R.F pw) (R.F pw) w w'∧aw w' pw #[.pointer (some ⟨R.pt,0,none⟩),R.dv] 46∧w'.ownsRow 0 194 6 R.dv S.ds.length (S.ds.flatMap Dv.cs):=by
 have hM':Mod (R.F pw) w w':=hM.mono (fun k hk=>hk.elim (fun e=>.inr (.inl e)) (fun e=>.inr (.inr (.inl e))));have hap:∀(x:Nat) (vs:Array Value) (T:TypeId),aw w x vs T→T≠89→¬(x=R.pt∨x=R.pm):=by
  rintro x vs T hx hT (rfl|rfl)
  ·have h2:=h.tab.aZ;unfold aw at hx h2;rw[hx] at h2;injection h2 with h2;injection h2 with _ h2;exact hT h2
  ·have h2:=h.tab.map;unfold dF at h2;unfold aw at hx;rw[hx] at h2
   cases h2
 refine⟨aR.cQ hM',h.aZ.mod hM (hap _ _ _ h.aZ (by decide)),⟨h.eN.1,h.eN.2.imp id fun⟨g,cap,cur,h1,h2,hg,h3⟩=>⟨g,cap,cur,h1,h2,(hM.block g (Array.getElem?_eq_some_iff.1 hg).1 (hap _ _ _ hg (by decide))).trans hg,h3⟩⟩⟩
def Gn.put(a:An)(ea:Option Addr)(el ec:Nat)(g:Gn):Gn:=if g.a.no==a.no then⟨a,ea,el,ec,g.ey⟩ else g
theorem bm.zJ(h:bm w pw R S)(a:An){ea:Option Addr}{el ec:Nat}(he:aA w ea el ec a.ay){b:An}(hb:S.get a.no=some b) :
  Calls Tryz.prog 117 #[.pointer (some ⟨R.pt,0,none⟩),a.v ea el ec] w fun e w'=>e=.returned (.bool true)∧∃R',bm w' pw R' (S.set a)∧aR (R.F pw) (R'.F pw) w w'∧R'.pt=R.pt∧R'.dv=R.dv:=by
 obtain⟨g0,-,-,hf,-⟩:=Mv h hb;refine(Ig g0.nd (a.nd ea el ec) w R.pt R.pm S.last _ R.ey h.tab hf).mono ?_;rintro e w' ⟨rfl,hT,hM⟩;obtain⟨hst,hblk,hdv⟩:=h.Ia hM;refine⟨rfl,⟨R.pt,R.pm,R.dv,R.G.map (Gn.put a ea el ec),R.ey⟩,⟨hblk,?_,hdv,?_,?_⟩,⟨hst.mod,fun k hk=>.inl hk⟩,rfl,rfl⟩
 ·show zi w' R.pt R.pm S.last ((R.G.map (Gn.put a ea el ec)).map Gn.e) R.ey;have e:(R.G.map (Gn.put a ea el ec)).map Gn.e=(R.G.map Gn.e).map fun x=>if x.1.no==(a.nd ea el ec).no then(a.nd ea el ec,x.2) else x:=by
   rw[List.map_map,List.map_map];apply List.map_congr_left;intro g _;simp only[Function.comp_apply,Gn.put];show Gn.e (if(g.a.no==a.no)=true then _ else g)=if(g.a.no==a.no)=true then _ else _
   split
   ·rfl
   ·rfl
  rw[e];exact hT
 ·show(S.ns.map _)=(R.G.map (Gn.put a ea el ec)).map (fun g:Gn=>g.a);rw[h.ns,List.map_map,List.map_map];apply List.map_congr_left;intro g _;simp only[Function.comp_apply,Gn.put]
  split<;>rfl
 ·intro g hg;obtain⟨g1,I1,rfl⟩:=List.mem_map.1 hg;unfold Gn.put
  split
  ·exact he.wd h hst
  ·exact(h.ay g1 I1).wd h hst
theorem Gi:(Tryz.prog.info? 194).map (fun i=>(i.zero,i.size,i.bytes))=some (some (.agg #[.int .i64 0,.int .i64 0,.int .i64 0,.int .i64 0,.int .i64 0,.int .i64 0]),6,48):=by kernel_rfl
def Fs.oN(S:Fs)(aC b n:Int):Fs:={S with ds:=S.ds++[⟨0,aC,1,1,b,n⟩]}
theorem bm.app(h:bm w pw R S)(hl:S.ds.length≤100)(ad:Addr)(aC b n:Int)(had:∀j u,(Dv.cs ⟨0,aC,1,1,b,n⟩)[j]?=some u→w.cell? (ad.add j)=some u) :
  ∃g cap W,(Builtin.append_ #[44,44] 44 #[R.dv,.slice (some ad) 1 1]).run Tryz.prog w=.ok (.slice (some ⟨g,0,none⟩) (S.ds.length+1) cap) W∧
   bm (W.setCell ⟨pw,1,none⟩ (.slice (some ⟨g,0,none⟩) (S.ds.length+1) cap)) pw {R with dv:=.slice (some ⟨g,0,none⟩) (S.ds.length+1) cap} (S.oN aC b n)∧
   aR (R.F pw) (Rp.F {R with dv:=.slice (some ⟨g,0,none⟩) (S.ds.length+1) cap} pw) w (W.setCell ⟨pw,1,none⟩ (.slice (some ⟨g,0,none⟩) (S.ds.length+1) cap))∧
   aw W pw #[.pointer (some ⟨R.pt,0,none⟩),R.dv] 46∧Mod (fun k=>R.dv.ownBlock=some k) w W:=by
 obtain⟨i0,hi,jy,ee,et⟩:=info_parts Gi;obtain⟨g,cap,W,h1,h2,h3,h4⟩:=ei (44) Tryz.underlying44 hi jy ee et rfl (by omega) h.eN ad 1 1 (Dv.cs ⟨0,aC,1,1,b,n⟩) rfl had (by intro u hu;simp[Dv.cs] at hu;rcases hu with rfl|rfl|rfl|rfl|rfl<;>rfl) (by omega) (by unfold maxLen;omega) (by omega) (Nat.zero_le _);have hM:Mod (R.F pw) w W:=h3.mono (fun k hk=>.inr (.inr (.inr hk)));have hap:∀(x:Nat) (vs:Array Value) (T:TypeId),aw w x vs T→T≠194→¬(R.dv.ownBlock=some x):=by
  intro x vs T hx hT hk;obtain⟨-,cur,hc⟩:=aD h.eN hk;unfold aw at hx;rw[hx] at hc;injection hc with hc;injection hc with _ hc;exact hT hc
 have lK:aw W pw #[.pointer (some ⟨R.pt,0,none⟩),R.dv] 46:=h.aZ.mod h3 (hap _ _ _ h.aZ (by decide));have hpg:pw≠g:=by
  rintro rfl;rcases h4 with h4|h4
  ·exact hap _ _ _ h.aZ (by decide) h4
  ·have:=h.aZ.lt;omega
 have hmap:¬(R.dv.ownBlock=some R.pm):=fun hk=>by
  obtain⟨-,cur,hc⟩:=aD h.eN hk;have:=h.tab.map;unfold dF at this;rw[hc] at this
  cases this
 have iR:aR (R.F pw) (R.F pw) w (W.setCell ⟨pw,1,none⟩ (.slice (some ⟨g,0,none⟩) (S.ds.length+1) cap)):=aR.cQ (hM.setCell (.inl (.inl rfl)) _);have hnt:pw≠R.pt:=fun e=>by
  have h1:=h.aZ;have h2:=h.tab.aZ;rw[e] at h1;unfold aw at h1 h2;rw[h1] at h2;injection h2 with h2;injection h2 with _ h2;revert h2;decide
 have hnm:pw≠R.pm:=fun e=>by
  have h1:=h.aZ;have h2:=h.tab.map;rw[e] at h1;unfold aw at h1;unfold dF at h2;rw[h1] at h2;cases h2
 refine⟨g,cap,W,h1,⟨?_,⟨?_,?_,h.tab.once,h.tab.low⟩,?_,h.ns,fun x hx=>(h.ay x hx).wd h iR⟩,⟨iR.mod,fun k hk=>?_⟩,lK,h3⟩
 ·exact lK.set 1 _
 ·exact(h.tab.aZ.mod h3 (hap _ _ _ h.tab.aZ (by decide))).setOther _ _ hnt
 ·exact dF.setOther ((h3.block _ h.tab.map.lt hmap).trans h.tab.map) _ _ hnm
 ·show World.ownsRow _ 0 194 6 _ (S.ds++[_]).length ((S.ds++[_]).flatMap Dv.cs);rw[List.length_append,List.length_singleton,List.flatMap_append,List.flatMap_singleton];refine bI h2 ((Mod.refl (fun k=>k=pw) W).setCell (a:=⟨pw,1,none⟩) (.inl rfl) _) (fun k hk e=>?_);subst hk;simp only[Value.ownBlock,Option.some.injEq] at e;exact hpg e.symm
 ·rcases hk with hk|hk|hk|hk
  ·exact .inl (.inl hk)
  ·exact .inl (.inr (.inl hk))
  ·exact .inl (.inr (.inr (.inl hk)))
  ·simp only[Value.ownBlock,Option.some.injEq] at hk;subst hk;rcases h4 with h4|h4
   ·exact .inl (.inr (.inr (.inr h4)))
   ·exact .inr (by omega)
end
end
section
open Go.RowKit
theorem tn{α:Type}{enc:α→List Value}{w:World}{base sz n:Nat}{e:TypeId}{v:Value}{ys:List α}(hpos:0<sz)(hl:∀x,(enc x).length=sz)(h:w.ownsRow base e sz v n (ys.flatMap enc))(hn:0<n) :
  ∃g cap,v=.slice (some ⟨g,0,none⟩) n cap∧ys.length=n∧n≤cap∧cap≤9223372036854775807∧base≤g∧g<w.heap.size∧
   (∀(i:Nat) (hi:i<ys.length) (j:Nat) (hj:j<sz),w.cell? ⟨g,i*sz+j,none⟩=some ((enc ys[i])[j]'(by rw[hl];exact hj)))∧∃cur,aw w g cur e:=by
 obtain⟨a,cap,rfl,hle,xZ,hf⟩:=bC h;rcases hf with⟨-,h1,-⟩|⟨g,rfl,hb,hg⟩
 ·omega
 ·obtain⟨hy,-,-,h1|⟨b,off,he,aS,hel⟩⟩:=eo (R:=fun cs x=>cs=enc x) hpos hl (fun _=>rfl) h
  ·omega
  ·injection he with he;injection he with e1 e2;subst e1 e2;obtain⟨cur,hcur⟩:∃cur,aw w g cur e:=by
    rcases h.2 with⟨h1,-⟩|⟨g',cap',cur,h1,-,hg',-⟩
    ·cases h1
    ·injection h1 with h1;injection h1 with h1;injection h1 with h1;subst h1;exact⟨cur,hg'⟩
   refine⟨g,cap,rfl,hy,hle,xZ,hb,hg,fun i hi j hj=>?_,cur,hcur⟩;obtain⟨cs,h2,h3,h4⟩:=hel i hi;subst h3;have:=h4 j (by rw[hl];exact hj);rw[Nat.zero_add] at this;exact this
def Gn.cs(g:Gn):List Value:=[.int .i64 g.a.no,.int .i64 g.a.dev,.int .i64 g.a.kind,.int .i64 g.a.mode,.int .i64 g.a.uid,.int .i64 g.a.gid,.int .i64 g.a.mtime,.int .i64 g.a.ctime,.int .i64 g.a.ao,.int .i64 g.a.up,.string g.a.data,.slice g.ea g.el g.ec]
theorem Gn.fF(g:Gn):g.cs.length=12:=rfl
structure Rf where
 nv:Value
 dv:Value
 G:List Gn
 now:Int
 mR:Value
 pl:Value
 dd:Value
def Rf.F(R:Rf)(pf k:Nat):Prop:=k=pf∨R.nv.ownBlock=some k∨R.dv.ownBlock=some k
structure aN(w:World)(pf:Nat)(R:Rf)(S:Fs):Prop where
 aZ:aw w pf #[R.nv,R.dv,.int .i64 S.last,.int .i64 R.now,R.mR,R.pl,R.dd] 55
 re:w.ownsRow 0 149 12 R.nv R.G.length (R.G.flatMap Gn.cs)
 eN:w.ownsRow 0 266 6 R.dv S.ds.length (S.ds.flatMap Dv.cs)
 ns:S.ns=R.G.map (·.a)
 ay:∀g∈R.G,aA w g.ea g.el g.ec g.a.ay
def mo(o:Obj):Bool:=match o with
 | .cells _ t _=>t==55||t==149||t==266
 |_=>false
section
variable{w w':World}{pf:Nat}{R:Rf}{S:Fs}
theorem aN.kind(h:aN w pf R S){k:Nat}(hk:R.F pf k):∃o,w.heap[k]?=some o∧mo o=true:=by
 rcases hk with rfl|hk|hk
 ·exact⟨_,h.aZ,rfl⟩
 ·obtain⟨-,cur,hc⟩:=aD h.re hk;exact⟨_,hc,rfl⟩
 ·obtain⟨-,cur,hc⟩:=aD h.eN hk;exact⟨_,hc,rfl⟩
theorem aN.lt(h:aN w pf R S){k:Nat}(hk:R.F pf k):k<w.heap.size:=by
 obtain⟨o,ho,-⟩:=h.kind hk;exact(Array.getElem?_eq_some_iff.1 ho).1
theorem aA.rf{a:Option Addr}{n c:Nat}{es:List En}(he:aA w a n c es)(h:aN w pf R S){F':Nat→Prop}(hs:aR (R.F pf) F' w w'):aA w' a n c es:=
 he.fH (fun b cur hc=>hs.mod.block b (Array.getElem?_eq_some_iff.1 hc).1 (fun hk=>by
  obtain⟨o,ho,hd⟩:=h.kind hk;rw[hc] at ho;injection ho with ho;subst ho;rw[show mo (.cells cur 98 (0,0))=false from rfl] at hd
  cases hd)) hs.mod.size
theorem aw.rf{B:Nat}{vs:Array Value}{T:TypeId}(hb:aw w B vs T)(h:aN w pf R S){F':Nat→Prop}(hs:aR (R.F pf) F' w w')(hT:mo (.cells #[] T (0,0))=false):aw w' B vs T:=
 hb.mod hs.mod (fun hk=>by
  obtain⟨o,ho,hd⟩:=h.kind hk;unfold aw at hb;rw[hb] at ho;injection ho with ho;subst ho;rw[show mo (.cells vs T (0,0))=mo (.cells #[] T (0,0)) from rfl,hT] at hd
  cases hd)
theorem qV{base sz n:Nat}{e:TypeId}{v:Value}{xs:List Value}(h:w.ownsRow base e sz v n xs)(ht:∀k,v.ownBlock=some k→w'.heap[k]?=w.heap[k]?):w'.ownsRow base e sz v n xs:=
 ⟨h.1,h.2.imp id fun⟨g,cap,cur,h1,h2,hg,h3⟩=>⟨g,cap,cur,h1,h2,(ht g (by rw[h1];rfl)).trans hg,h3⟩⟩
theorem aN.fH(h:aN w pf R S)(ht:∀k,R.F pf k→w'.heap[k]?=w.heap[k]?)(he:∀(b:Nat) (cur:Array Value),w.heap[b]?=some (.cells cur 98 (0,0))→w'.heap[b]?=w.heap[b]?)(hs:w.heap.size≤w'.heap.size):aN w' pf R S where
 aZ:=(ht _ (.inl rfl)).trans h.aZ
 re:=qV h.re (fun k hk=>ht k (.inr (.inl hk)))
 eN:=qV h.eN (fun k hk=>ht k (.inr (.inr hk)))
 ns:=h.ns
 ay:=fun g hg=>(h.ay g hg).fH he hs
theorem aN.ak(h:aN w pf R S)(hb:Qi w w'):aN w' pf R S:=
 h.fH (fun k hk=>hb.block k (h.lt hk)) (fun b cur hc=>hb.block b (Array.getElem?_eq_some_iff.1 hc).1) hb.size
theorem aN.mod(h:aN w pf R S){F:Nat→Prop}(hm:Mod F w w')(hF:∀(k:Nat) (o:Obj),F k→w.heap[k]?=some o→mo o=false∧∀cur,o≠.cells cur 98 (0,0)):aN w' pf R S:=
 h.fH (fun k hk=>hm.block k (h.lt hk) (fun hf=>by
  obtain⟨o,ho,hd⟩:=h.kind hk;rw[(hF k o hf ho).1] at hd
  cases hd)) (fun b cur hc=>hm.block b (Array.getElem?_eq_some_iff.1 hc).1 (fun hf=>(hF b _ hf hc).2 cur rfl)) hm.size
theorem aN.len(h:aN w pf R S):S.ns.length=R.G.length:=by rw[h.ns,List.length_map]
theorem KR(h:aN w pf R S)(k:Int):S.get k=(R.G.find? (fun g=>g.a.no==k)).map (·.a):=by
 unfold Fs.get;rw[h.ns,List.find?_map];rfl
def jq(G:List Gn)(no:Int):Int:=match G.findIdx? (fun g=>g.a.no==no) with|some i=>i|none=>-1
theorem zZ{G:List Gn}{no:Int}{i:Nat}(hi:i<G.length)(h1:G[i].a.no=no)(h2:∀j (hj:j<G.length),j<i→G[j].a.no≠no):jq G no=i:=by
 unfold jq;rw[show G.findIdx? (fun g=>g.a.no==no)=some i from List.findIdx?_eq_some_iff_getElem.2 ⟨hi,by simpa using h1,fun j hj=>by simpa using h2 j (by omega) hj⟩]
theorem CV{G:List Gn}{no:Int}(h2:∀j (hj:j<G.length),G[j].a.no≠no):jq G no=-1:=by
 unfold jq;rw[show G.findIdx? (fun g=>g.a.no==no)=none from List.findIdx?_eq_none_iff.2 (fun g hg=>by
  obtain⟨j,hj,rfl⟩:=List.mem_iff_getElem.1 hg;simpa using h2 j hj)]
theorem oh(h:aN w pf R S)(k:Int):(∃(i:Nat) (hi:i<R.G.length),jq R.G k=i∧S.get k=some R.G[i].a∧R.G[i].a.no=k)∨(jq R.G k=-1∧S.get k=none):=by
 rw[KR h];unfold jq
 cases hf:R.G.findIdx? (fun g=>g.a.no==k) with
 |some i=>
  obtain⟨hi,h1,h2⟩:=List.findIdx?_eq_some_iff_getElem.1 hf;left;refine⟨i,hi,rfl,?_,by simpa using h1⟩;rw[show R.G.find? (fun g=>g.a.no==k)=some R.G[i] from List.find?_eq_some_iff_getElem.2 ⟨h1,i,hi,rfl,fun j hj=>by simpa using h2 j hj⟩];rfl
 |none=>
  right;refine⟨rfl,?_⟩;rw[List.findIdx?_eq_none_iff] at hf;rw[show R.G.find? (fun g=>g.a.no==k)=none from List.find?_eq_none.2 (fun g hg=>by simpa using hf g hg)];rfl
structure NdC(w:World)(g o:Nat)(a:An)(ea:Option Addr)(el ec:Nat):Prop where
 c0:w.cell? ⟨g,o,none⟩=some (.int .i64 a.no)
 c1:w.cell? ⟨g,o+1,none⟩=some (.int .i64 a.dev)
 c2:w.cell? ⟨g,o+2,none⟩=some (.int .i64 a.kind)
 c3:w.cell? ⟨g,o+3,none⟩=some (.int .i64 a.mode)
 c4:w.cell? ⟨g,o+4,none⟩=some (.int .i64 a.uid)
 c5:w.cell? ⟨g,o+5,none⟩=some (.int .i64 a.gid)
 c6:w.cell? ⟨g,o+6,none⟩=some (.int .i64 a.mtime)
 c7:w.cell? ⟨g,o+7,none⟩=some (.int .i64 a.ctime)
 c8:w.cell? ⟨g,o+8,none⟩=some (.int .i64 a.ao)
 c9:w.cell? ⟨g,o+9,none⟩=some (.int .i64 a.up)
 M7:w.cell? ⟨g,o+10,none⟩=some (.string a.data)
 M6:w.cell? ⟨g,o+11,none⟩=some (.slice ea el ec)
theorem aN.bS(h:aN w pf R S)(hn:0<R.G.length):∃g cap,R.nv=.slice (some ⟨g,0,none⟩) R.G.length cap∧R.G.length≤cap∧cap≤9223372036854775807∧g<w.heap.size∧
  (∀(i:Nat) (hi:i<R.G.length),NdC w g (i*12) R.G[i].a R.G[i].ea R.G[i].el R.G[i].ec)∧(∀i,w.frozen? ⟨g,i,none⟩=false)∧∃cur,aw w g cur 149:=by
 obtain⟨g,cap,hv,-,h1,h2,-,h3,h4,cur,h5⟩:=tn (by omega) Gn.fF h.re hn;exact⟨g,cap,hv,h1,h2,h3,fun i hi=>⟨h4 i hi 0 (by omega),h4 i hi 1 (by omega),h4 i hi 2 (by omega),h4 i hi 3 (by omega),h4 i hi 4 (by omega),h4 i hi 5 (by omega),h4 i hi 6 (by omega),h4 i hi 7 (by omega),h4 i hi 8 (by omega),h4 i hi 9 (by omega),h4 i hi 10 (by omega),h4 i hi 11 (by omega)⟩,h5.frozen,cur,h5⟩
theorem aN.kZ(h:aN w pf R S)(hd:0<S.ds.length):∃g cap,R.dv=.slice (some ⟨g,0,none⟩) S.ds.length cap∧S.ds.length≤cap∧cap≤9223372036854775807∧g<w.heap.size∧
  (∀(i:Nat) (hi:i<S.ds.length),DvC w g (i*6) S.ds[i])∧(∀i,w.frozen? ⟨g,i,none⟩=false)∧∃cur,aw w g cur 266:=by
 obtain⟨g,cap,hv,-,h1,h2,-,h3,h4,cur,h5⟩:=tn (by omega) Dv.fF h.eN hd;exact⟨g,cap,hv,h1,h2,h3,fun i hi=>⟨h4 i hi 0 (by omega),h4 i hi 1 (by omega),h4 i hi 2 (by omega),h4 i hi 3 (by omega),h4 i hi 4 (by omega),h4 i hi 5 (by omega)⟩,h5.frozen,cur,h5⟩
theorem aN.Fh(h:aN w pf R S):∃a c,R.nv=.slice a R.G.length c∧R.G.length≤c∧c≤9223372036854775807:=by
 obtain⟨a,c,h1,h2,h3,-⟩:=bC h.re;exact⟨a,c,h1,h2,h3⟩
theorem aN.BK(h:aN w pf R S):∃a c,R.dv=.slice a S.ds.length c∧S.ds.length≤c∧c≤9223372036854775807:=by
 obtain⟨a,c,h1,h2,h3,-⟩:=bC h.eN;exact⟨a,c,h1,h2,h3⟩
end
def Fs.bl(S:Fs)(k:Int):An:=(S.get k).getD cS
theorem dE{S:Fs}{k:Int}{a:An}(h:S.get k=some a):S.bl k=a:=by unfold Fs.bl;rw[h];rfl
theorem iB{S:Fs}{k:Int}(h:S.get k=none):S.bl k=cS:=by unfold Fs.bl;rw[h];rfl
end
section
open Go.RowKit
section
variable{w w':World}{pw:Nat}{R:Rp}{S:Fs}
theorem Ht(b n:Int)(h:gl b n=true):Hy 0 0 b n 1 1=.tuple #[.agg #[.int .i64 1,.int .i64 1,.int .i64 b,.int .i64 n],.int .i64 0]:=by
 obtain⟨h1,h2,h3,h4⟩:=oq h;have e:kE 0 0 b n 1 1=0:=by
  unfold kE oS gZ;simp;omega
 have:=zt 0 0 b n 1 1 e;simpa using this
theorem bm.Ih(h:bm w pw R S){g cap:Nat}(hdv:R.dv=.slice (some ⟨g,0,none⟩) S.ds.length cap){k:Nat}(hk:k<S.ds.length)(v:Dv)(hv:S.ds[k]=v)(r:Int) :
  bm (w.setCell ⟨g,k*6,none⟩ (.int .i64 r)) pw R {S with ds:=S.ds.set k {v with root:=r}}∧Mod (fun x=>x=g) w (w.setCell ⟨g,k*6,none⟩ (.int .i64 r)):=by
 have hm:Mod (fun x=>x=g) w (w.setCell ⟨g,k*6,none⟩ (.int .i64 r)):=(Mod.refl (fun x=>x=g) w).setCell (a:=⟨g,k*6,none⟩) (.inl rfl) _;refine⟨?_,hm⟩;obtain⟨g',cap',hdv',-,-,-,-,-,cur,hcur⟩:=h.kZ (by omega);have e:=hdv.symm.trans hdv';injection e with e;injection e with e;injection e with e;subst e;have hne:∀(x:Nat) (vs:Array Value) (T:TypeId),aw w x vs T→T≠194→x≠g:=by
  rintro x vs T hx hT rfl;unfold aw at hx hcur;rw[hcur] at hx;injection hx with hx;injection hx with _ hx;exact hT hx.symm
 have h3:R.pm≠g:=by
  rintro e;have hm:=h.tab.map;unfold dF at hm;rw[e] at hm;unfold aw at hcur;rw[hcur] at hm
  cases hm
 refine⟨h.aZ.mod hm (hne _ _ _ h.aZ (by decide)),⟨h.tab.aZ.mod hm (hne _ _ _ h.tab.aZ (by decide)),(hm.block _ h.tab.map.lt h3).trans h.tab.map,h.tab.once,h.tab.low⟩,?_,h.ns,fun x hx=>(h.ay x hx).fH (fun bk cr hc=>hm.block bk (Array.getElem?_eq_some_iff.1 hc).1 (hne bk cr _ hc (by decide))) hm.size⟩;show World.ownsRow _ 0 194 6 R.dv (S.ds.set k _).length ((S.ds.set k _).flatMap Dv.cs);rw[List.length_set];have h0:=h.eN;rw[hdv] at h0⊢;have hkl:k*6+5<(S.ds.flatMap Dv.cs).length:=by rw[oD];omega
 have p1:=ft h0 (k*6) (by omega) (.int .i64 r);have hs:=gJ Dv.fF ({v with root:=r}:Dv) S.ds k hk;rw[←hs];have hsame:∀(l:List Value) (j:Nat) (u:Value),l[j]?=some u→l.set j u=l:=by
  intro l j u hu;obtain⟨hlt,rfl⟩:=List.getElem?_eq_some_iff.1 hu;rw[List.set_getElem_self]
 have c:∀j (hj:j<6),(S.ds.flatMap Dv.cs)[k*6+j]?=(Dv.cs v)[j]?:=fun j hj=>by rw[gP Dv.fF S.ds k j hk hj,hv]
 have c':∀j (u:Value),1≤j→j<6→(Dv.cs v)[j]?=some u→((S.ds.flatMap Dv.cs).set (k*6) (.int .i64 r)).set (k*6+j) u=(S.ds.flatMap Dv.cs).set (k*6) (.int .i64 r):=fun j u h1 h6 hu=>
  hsame _ _ _ (by rw[List.getElem?_set_ne (by omega),c j h6,hu])
 show World.ownsRow _ 0 194 6 _ _ ((((((((S.ds.flatMap Dv.cs).set (k*6) (.int .i64 r)).set (k*6+1) (.int .i64 v.aC)).set (k*6+2) (.int .i64 v.b)).set (k*6+3) (.int .i64 v.n)).set (k*6+4) (.int .i64 v.mb)).set (k*6+5) (.int .i64 v.mn)));rw[c' 1 _ (by omega) (by omega) rfl,c' 2 _ (by omega) (by omega) rfl,c' 3 _ (by omega) (by omega) rfl,c' 4 _ (by omega) (by omega) rfl,c' 5 _ (by omega) (by omega) rfl];exact p1
def iG(S:Fs):An:={cS with dev:=(S.ds.length:Int)+1,kind:=1,mode:=493,ao:=1}
theorem AZ(S:Fs)(hn:gR S)(aC b n:Int) :
  {(((S.oN aC b n).add (iG S)).set {iG S with no:=S.last+1,up:=S.last+1}) with ds:=(S.oN aC b n).ds.set S.ds.length {(⟨0,aC,1,1,b,n⟩:Dv) with root:=S.last+1}}=S.aH aC b n:=by
 unfold Fs.aH Fs.set Fs.add Fs.oN;simp only[List.map_append,List.map_cons,List.map_nil];congr 1
 ·congr 1
  ·conv=>rhs;rw[←List.map_id S.ns]
   apply List.map_congr_left;intro x hx;have:=hn.low x hx;simp only[id_eq];rw[if_neg];simp;omega
  ·simp[iG]
 ·rw[List.set_append_right _ _ (aa _)];simp
theorem xm{S:Fs}(hn:gR S)(aC b n:Int):gR (S.oN aC b n):=⟨hn.eE,hn.low⟩
theorem Hj(aC b n:Int)(hlim:gl b n=false)(w:World)(pw:Nat) :
  Calls Tryz.prog 123 #[.pointer (some ⟨pw,0,none⟩),.int .i64 aC,.int .i64 b,.int .i64 n] w fun e w'=>e=.returned (.int .i64 3)∧Qi w w':=by
 have HNw:=Qf (fun w=>KX b n hlim w);clear hlim;go_enter Tryz.func123,Tryz.ntmps123;go_wp2_with fail;refine(HNw.o _).mono ?_;rintro e w1 ⟨rfl,av⟩;go_wp2_with fail;go_ret;exact⟨rfl,aq av _⟩
theorem wj(h:bm w pw R S)(hn:gR S)(eR:0≤S.last)(pV:S.last≤1000000)(hd:S.ds.length≤7)(aC b n:Int)(hlim:gl b n=true) :
  Calls Tryz.prog 123 #[.pointer (some ⟨pw,0,none⟩),.int .i64 aC,.int .i64 b,.int .i64 n] w fun e w'=>e=.returned (.int .i64 0)∧∃R',bm w' pw R' (S.aH aC b n)∧aR (R.F pw) (R'.F pw) w w':=by
 have HNw:=Qf (fun w=>IB b n hlim w);have hT:=fun w=>wv 0 0 b n 1 1 w;rw[Ht b n hlim] at hT;have HT:=Qf hT;have mL:=Qf h;obtain⟨pc,-,pz⟩:=h.aZ.facts;clear hlim hT h;go_enter Tryz.func123,Tryz.ntmps123;go_wp2_with fail;refine(HNw.o _).mono ?_;rintro e w1 ⟨rfl,av⟩;go_wp2_with fail;refine(HT.o _).mono ?_;rintro e w2 ⟨rfl,aS⟩;have hB9:=xr aS;have gu:=au (aq av (.cells #[.int .i64 0,.int .i64 0,.int .i64 b,.int .i64 n] 192)) aS;have hle1:=av.size;have yV:=Qf hB9;obtain⟨qc,qf,qz⟩:=hB9.facts;have HX:=Qf (aB (v0:=.int .i64 1) (v1:=.int .i64 1) (v2:=.int .i64 b) (v3:=.int .i64 n) gu hle1);have pG:=hB9.cM (v0:=.int .i64 1) (v1:=.int .i64 1) (v2:=.int .i64 b) (v3:=.int .i64 n);clear hB9 av aS;go_wp2_with fail;generalize (((w2.setCell ⟨w1.heap.size,0,none⟩ (.int .i64 1)).setCell ⟨w1.heap.size,1,none⟩ (.int .i64 1)).setCell ⟨w1.heap.size,2,none⟩ (.int .i64 b)).setCell ⟨w1.heap.size,3,none⟩ (.int .i64 n)=X at HX pG⊢;clear qc qf qz;obtain⟨qc,qf,qz⟩:=pG.facts;have hWX:=mL.o.ak HX.o;have bK:Qi X (X.alloc (.cells #[.int .i64 0,.int .i64 aC,.int .i64 1,.int .i64 1,.int .i64 b,.int .i64 n] 194)).drew:=((Below.refl _ X).alloc (aa _) _).drew;obtain⟨g,cap,Y,hrun,GY,I',dX,MT⟩:=(hWX.ak bK).app (by omega) ⟨X.heap.size,0,none⟩ aC b n (World.news_of_block ((aw.new X #[.int .i64 0,.int .i64 aC,.int .i64 1,.int .i64 1,.int .i64 b,.int .i64 n] 194).drew));obtain⟨xc,-,xz⟩:=hWX.aZ.facts;obtain⟨yc,yf,yz⟩:=dX.facts;have mixed:Tryz.prog.follows .mixedOrders=true:=by kernel_rfl
 have HWY:=Qf GY;have HSY:=Qf ((aR.ar (HX.o.trans (bK.mono HX.o.size))).trans I');obtain⟨da,dc,hdv,-,-,-⟩:=bC mL.o.eN;rw[hdv] at xc yc hrun;clear pc GY I' hWX MT dX hdv;have sO:=Qf hrun;clear hrun;go_upto_region 5 with(fail)
 go_cut [] (fun wx=>wx=Y.setCell ⟨pw,1,none⟩ (.slice (some ⟨g,0,none⟩) (S.ds.length+1) cap))
 case first=>
  have hrun:=sO.o
  go_region_law_o (refine jY rfl rfl rfl rfl hrun ?_)
  all_goals
   go_wp2_with fail;go_meet;rfl
 case rest=>
  subst hcut;generalize Y.setCell ⟨pw,1,none⟩ (.slice (some ⟨g,0,none⟩) (S.ds.length+1) cap)=Z at HWY HSY⊢;clear xc xz yc yf yz qc qf qz bK gu yV pG sO;have Ls:=HWY.o;obtain⟨zc,zf,zz⟩:=Ls.aZ.facts;obtain⟨m,hm⟩:∃m,S.ds.length=m:=⟨_,rfl⟩;have Hm:=Qf hm;obtain⟨S2,jr⟩:∃S2,(S.oN aC b n).add (iG S)=S2:=⟨_,rfl⟩;obtain⟨a5,D5⟩:∃a5:An,{iG S with no:=S.last+1}=a5:=⟨_,rfl⟩;obtain⟨a6,I9⟩:∃a6:An,{iG S with no:=S.last+1,up:=S.last+1}=a6:=⟨_,rfl⟩;have HAdd:=Qf (show Calls Tryz.prog 150 #[.pointer (some ⟨R.pt,0,none⟩),.agg #[.int .i64 0,.int .i64 ((m:Int)+1),.int .i64 1,.int .i64 493,.int .i64 0,.int .i64 0,.int .i64 0,.int .i64 0,.int .i64 1,.int .i64 0,.string ByteArray.empty,.slice none 0 0]] Z fun e w'=>e=.returned (.int .i64 (S.last+1))∧∃R':Rp,bm w' pw R' S2∧aR (Rp.F {R with dv:=.slice (some ⟨g,0,none⟩) (S.ds.length+1) cap} pw) (R'.F pw) Z w'∧R'.pt=R.pt∧R'.dv=.slice (some ⟨g,0,none⟩) (S.ds.length+1) cap by
   rw[←hm,←jr];exact Ls.Pw (iG S) (aA.nil Z) eR pV)
  have GL:=Qf (show S2.get (S.last+1)=some a5 by rw[←jr,←D5,km (xm hn aC b n)];exact if_pos rfl);have HV5:=Qf (fun(ea:Option Addr) (el ec:Nat)=>show a5.v ea el ec=.agg #[.int .i64 (S.last+1),.int .i64 ((m:Int)+1),.int .i64 1,.int .i64 493,.int .i64 0,.int .i64 0,.int .i64 0,.int .i64 0,.int .i64 1,.int .i64 0,.string ByteArray.empty,.slice ea el ec] by rw[←D5,←hm];rfl);have HV6:=Qf (fun(ea:Option Addr) (el ec:Nat)=>show a6.v ea el ec=.agg #[.int .i64 (S.last+1),.int .i64 ((m:Int)+1),.int .i64 1,.int .i64 493,.int .i64 0,.int .i64 0,.int .i64 0,.int .i64 0,.int .i64 1,.int .i64 (S.last+1),.string ByteArray.empty,.slice ea el ec] by rw[←I9,←hm];rfl);have Qb:=Qf (show a6.no=S.last+1∧a6.ay=a5.ay by rw[←I9,←D5];exact⟨rfl,rfl⟩);have HEq:=Qf (show{(S2.set a6) with ds:=(S2.set a6).ds.set m {(⟨0,aC,1,1,b,n⟩:Dv) with root:=S.last+1}}=S.aH aC b n by rw[←jr,←I9,←hm];exact AZ S hn aC b n);have He:=Qf (show(S2.set a6).ds[m]?=some ⟨0,aC,1,1,b,n⟩∧(S2.set a6).ds.length=m+1 by
   rw[←jr,←hm];exact⟨by show(S.ds++[_])[S.ds.length]?=_;rw[List.getElem?_append_right (aa _)];simp,by show(S.ds++[_]).length=_;simp⟩)
  rw[hm] at zc;clear Ls hm jr D5 I9;go_wp2_with fail;refine HAdd.o.mono ?_;rintro e w5 ⟨rfl,R5,eh,dq,ga,vg⟩;have pM:=Qf (ag eh (ag ((HSY.o).trans dq) vg));obtain⟨rc,-,rz⟩:=eh.aZ.facts;rw[vg,Hm.o] at rc;obtain⟨ea,el,ec,hE,hG⟩:=mV eh GL.o;rw[HV5.o] at hG;have HG:=Qf hG;have HE:=Qf hE;clear eh dq ga vg hG hE zc zf zz;go_wp2_with fail;refine HG.o.mono ?_;rintro e w6 ⟨rfl,fo⟩;have rc0:w6.cell? ⟨pw,0,none⟩=_:=(fo.cell (p:=⟨pw,0,none⟩) rz).trans (rc 0);have hz6:=Nat.lt_of_lt_of_le rz fo.size;have jx:=Qf (aq fo (.cells #[.int .i64 (S.last+1),.int .i64 ((m:Int)+1),.int .i64 1,.int .i64 493,.int .i64 0,.int .i64 0,.int .i64 0,.int .i64 0,.int .i64 1,.int .i64 (S.last+1),.string ByteArray.empty,.slice ea el ec] 149));have B7:=aw.new w6 #[.int .i64 (S.last+1),.int .i64 ((m:Int)+1),.int .i64 1,.int .i64 493,.int .i64 0,.int .i64 0,.int .i64 0,.int .i64 0,.int .i64 1,.int .i64 (S.last+1),.string ByteArray.empty,.slice ea el ec] 149;clear rc fo rz;go_wp2_with fail;have rc7:(w6.alloc (.cells #[.int .i64 (S.last+1),.int .i64 ((m:Int)+1),.int .i64 1,.int .i64 493,.int .i64 0,.int .i64 0,.int .i64 0,.int .i64 0,.int .i64 1,.int .i64 (S.last+1),.string ByteArray.empty,.slice ea el ec] 149)).cell? ⟨pw,0,none⟩=_:=(((Qj w6).alloc (aa _) (.cells #[.int .i64 (S.last+1),.int .i64 ((m:Int)+1),.int .i64 1,.int .i64 493,.int .i64 0,.int .i64 0,.int .i64 0,.int .i64 0,.int .i64 1,.int .i64 (S.last+1),.string ByteArray.empty,.slice ea el ec] 149)).cell (p:=⟨pw,0,none⟩) hz6).trans rc0;generalize w6.alloc _=W7 at rc7 jx B7⊢;generalize w6.heap.size=B6 at B7⊢;obtain⟨bc,-,bz⟩:=B7.facts;have OD:Qi W7 W7.drew:=(Below.refl _ W7).drew;have I4:=jx.o.trans (OD.mono jx.o.size);have Lt:=(pM.o.1.ak I4).zJ a6 (ea:=ea) (el:=el) (ec:=ec) (by rw[Qb.o.2];exact HE.o.ak I4) (b:=a5) (by rw[Qb.o.1];exact GL.o);rw[HV6.o] at Lt;have ed:=Qf Lt;clear Lt rc0 hz6;refine aG 5 mixed (by kernel_rfl) eX ?_;simp only[List.take_succ_cons,List.take_zero,List.drop_succ_cons,List.drop_zero]
  repeat still_step
  refine wpStill_nil ?_;go_wp2_with fail;refine ed.o.mono ?_;rintro e w8 ⟨rfl,R8,eh,dq,ga,vg⟩;have FH:R8.dv=.slice (some ⟨g,0,none⟩) (m+1) cap:=by rw[vg,pM.o.2.2,Hm.o]
  have hl8:(S2.set a6).ds.length=m+1:=He.o.2;have hk8:m<(S2.set a6).ds.length:=by omega
  have hv8:(S2.set a6).ds[m]=⟨0,aC,1,1,b,n⟩:=by
   have:=He.o.1;rw[List.getElem?_eq_getElem hk8] at this;simpa using this
  obtain⟨g8,cap8,OC,hle8,h638,-,hc8,hf8,-⟩:=eh.kZ (by omega);have e8:=OC.symm.trans FH;injection e8 with e8 e9 e10;injection e8 with e8;injection e8 with e8;subst e8 e10;have c8:=(hc8 m hk8).c0;rw[hv8] at c8;obtain⟨rc,-,rz⟩:=eh.aZ.facts;rw[FH] at rc;obtain⟨hWF,hMF⟩:=eh.Ih (by rw[hl8];exact FH) hk8 _ hv8 (S.last+1);have HF:=Qf (ag hWF (show aR (R.F pw) (R8.F pw) w _ from((pM.o.2.1.trans (aR.ar I4)).trans dq).trans (aR.cQ (hMF.mono (fun x hx=>.inr (.inr (.inr (by rw[FH,hx];rfl))))))));rw[hl8] at hle8;clear eh dq ga vg FH hl8 hk8 hv8 hc8 hWF hMF OC e9 bc bz OD I4 rc7;have bK:(m:Int)<(m:Int)+1:=by omega
  have cZ:(0:Int)≤(m:Int):=by omega
  go_wp2_with fail;go_ret;refine⟨rfl,R8,?_,HF.o.2⟩;rw[←HEq.o];exact HF.o.1
end
end
section
open Go.RowKit
section
variable{w w':World}{pw:Nat}{R:Rp}{S:Fs}
theorem ES{S:Fs}{N:Nat}(aC b n:Int):(S.aH aC b n).root ((S.ds.length:Int)+1)=S.last+1:=by
 unfold Fs.root Fs.aH;simp;omega
theorem Gg(S:Fs)(aC b n:Int):(S.aH aC b n).ds.length=S.ds.length+1:=by unfold Fs.aH;simp
theorem qi(h:bm w pw R S){N:Nat}(hk:ax S N)(hN:N≤1000000)(k b n:Int) :
  Calls Tryz.prog 85 #[.pointer (some ⟨pw,0,none⟩),.int .i64 k,.int .i64 b,.int .i64 n] w fun e w'=>e=.returned (.tuple #[.int .i64 (S.bT k b n).2.1,.int .i64 (S.bT k b n).2.2])∧∃R',bm w' pw R' (S.bT k b n).1∧aR (R.F pw) (R'.F pw) w w':=by
 have mL:=Qf h;have iW:=Qf (iu h hk.d1);obtain⟨pc,-,pz⟩:=h.aZ.facts
 cases hg:S.get k with
 |none=>
  have HM:=Qf (show S.bT k b n=(S,0,5) by unfold Fs.bT;rw[hg]);have HG:=Qf (fK h hg);unfold An.v cS at HG;clear h hk hg;go_enter Tryz.func85,Tryz.ntmps85;go_wp2_with fail;refine iW.o.mono ?_;rintro e w1 ⟨rfl,rfl⟩;go_wp2_with fail;refine HG.o.mono ?_;rintro e w1 ⟨rfl,av⟩;go_wp2_with fail;go_ret2;rw[HM.o];exact⟨rfl,R,mL.o.ak (aq av _),aR.ar (aq av _)⟩
 |some a=>
  obtain⟨hao,hno,gD,-⟩:=hk.get hg;obtain⟨ea,el,ec,-,hgc⟩:=mV h hg;have HG:=Qf hgc;unfold An.v at HG;by_cases hkd:a.kind=1
  ·have q1:(a.kind==1)=true:=by simpa using hkd
   have q2:(a.kind != 1)=false:=by simpa using hkd
   have pO:=Qf (fun w1 (av:Qi w w1)=>jA (h.ak av) hk.d1 k);have Kv:=Qf (fun w1 (av:Qi w w1)=>fp (h.ak av) hk.d1 a.dev);have Kx:=Qf (fun(hx:S.aC k≠k∨S.root a.dev=k)=>show S.bT k b n=(S,0,16) by unfold Fs.bT;rw[hg];simp only;rw[if_neg (by simpa using hkd),if_pos hx]);have Ns:=Qf (fun(hx:¬(S.aC k≠k∨S.root a.dev=k)) (hy:8≤S.ds.length∨gl b n=false)=>show S.bT k b n=(S,0,3) by unfold Fs.bT;rw[hg];simp only;rw[if_neg (by simpa using hkd),if_neg hx,if_pos hy]);have PW:=Qf (fun(hx:¬(S.aC k≠k∨S.root a.dev=k)) (hy:¬(8≤S.ds.length∨gl b n=false))=>show S.bT k b n=(S.aH k b n,S.last+1,0) by unfold Fs.bT;rw[hg];simp only;rw[if_neg (by simpa using hkd),if_neg hx,if_neg hy]);have HK:=Qf hk;clear h hg hkd hao hno hgc;generalize S.aC k=ov at pO Kx Ns PW;generalize S.root a.dev=rt at Kv Kx Ns PW;obtain⟨g,cap,hdv,-,-,-,-,-,-⟩:=mL.o.kZ hk.d1;rw[hdv] at pc;clear hk hdv;by_cases h1:ov=k
   ·by_cases h2:rt=k
    ·have HM:=Qf (Kx.o (.inr h2));have q3:(ov != k)=false:=by simpa using h1
     have q4:(rt==k)=true:=by simpa using h2
     clear h1 h2;go_enter Tryz.func85,Tryz.ntmps85;go_wp2_with fail;refine iW.o.mono ?_;rintro e w1 ⟨rfl,rfl⟩;go_wp2_with fail;refine HG.o.mono ?_;rintro e w1 ⟨rfl,av⟩;have aS:=aq av (.cells #[.int .i64 a.no,.int .i64 a.dev,.int .i64 a.kind,.int .i64 a.mode,.int .i64 a.uid,.int .i64 a.gid,.int .i64 a.mtime,.int .i64 a.ctime,.int .i64 a.ao,.int .i64 a.up,.string a.data,.slice ea el ec] 149);have B1:=aw.new w1 #[.int .i64 a.no,.int .i64 a.dev,.int .i64 a.kind,.int .i64 a.mode,.int .i64 a.uid,.int .i64 a.gid,.int .i64 a.mtime,.int .i64 a.ctime,.int .i64 a.ao,.int .i64 a.up,.string a.data,.slice ea el ec] 149;go_wp2_with fail;refine(pO.o _ aS).mono ?_;rintro e w2 ⟨rfl,bK⟩;obtain⟨bc,-,-⟩:=(B1.ak bK).facts;have cZ:=au aS bK;go_wp2_with fail;refine(Kv.o _ cZ).mono ?_;rintro e w3 ⟨rfl,rfl⟩;go_wp2_with fail;go_ret2;rw[HM.o];exact⟨rfl,R,mL.o.ak cZ,aR.ar cZ⟩
    ·have hx:¬(ov≠k∨rt=k):=by rintro(h|h);exact h h1;exact h2 h
     have q3:(ov != k)=false:=by simpa using h1
     have q4:(rt==k)=false:=by simpa using h2
     have Ns:=Qf (Ns.o hx);have PW:=Qf (PW.o hx);clear h1 h2 hx;go_enter Tryz.func85,Tryz.ntmps85;go_wp2_with fail;refine iW.o.mono ?_;rintro e w1 ⟨rfl,rfl⟩;go_wp2_with fail;refine HG.o.mono ?_;rintro e w1 ⟨rfl,av⟩;have aS:=aq av (.cells #[.int .i64 a.no,.int .i64 a.dev,.int .i64 a.kind,.int .i64 a.mode,.int .i64 a.uid,.int .i64 a.gid,.int .i64 a.mtime,.int .i64 a.ctime,.int .i64 a.ao,.int .i64 a.up,.string a.data,.slice ea el ec] 149);have B1:=aw.new w1 #[.int .i64 a.no,.int .i64 a.dev,.int .i64 a.kind,.int .i64 a.mode,.int .i64 a.uid,.int .i64 a.gid,.int .i64 a.mtime,.int .i64 a.ctime,.int .i64 a.ao,.int .i64 a.up,.string a.data,.slice ea el ec] 149;go_wp2_with fail;refine(pO.o _ aS).mono ?_;rintro e w2 ⟨rfl,bK⟩;obtain⟨bc,-,-⟩:=(B1.ak bK).facts;have cZ:=au aS bK;go_wp2_with fail;refine(Kv.o _ cZ).mono ?_;rintro e w3 ⟨rfl,rfl⟩;have uv:=Qf cZ;have pc1:w2.cell? ⟨pw,1,none⟩=_:=(cZ.cell (p:=⟨pw,1,none⟩) pz).trans (pc 1);have Gy:=Qf (mL.o.ak cZ);clear pc B1 bc av aS bK cZ;by_cases h8:8≤S.ds.length
     ·have HM:=Qf (Ns.o (.inl h8));have M0:(8:Int)≤(S.ds.length:Int):=by omega
      generalize S.ds.length=m at pc1 M0;clear h8;go_wp2_with fail;go_ret2;rw[HM.o];exact⟨rfl,R,Gy.o,aR.ar uv.o⟩
     ·have M0:¬(8:Int)≤(S.ds.length:Int):=by omega
      by_cases hlim:gl b n=true
      ·have HM:=Qf (PW.o (by rintro(h|h);exact h8 h;rw[hlim] at h;cases h));have NG:=Qf (wj Gy.o HK.o.nums HK.o.l0 (by have:=HK.o.lN;omega) (by omega) k b n hlim);have JO:=Qf (ES (S:=S) (N:=0) k b n);have HDn:=Qf (Gg S k b n);have HDp:=Qf (show 0<(S.aH k b n).ds.length by rw[Gg];omega);generalize S.aH k b n=S' at HM NG JO HDn HDp;generalize S.ds.length=m at pc1 M0 JO HDn;clear h8;go_wp2_with fail;refine NG.o.mono ?_;rintro e w4 ⟨rfl,R',eh,dq⟩;have HR:=Qf (ag eh ((aR.ar uv.o).trans dq));have hrt:=fp eh HDp.o ((m:Int)+1);rw[JO.o] at hrt;have HRT:=Qf hrt;obtain⟨g',cap',hdv',-,-,-,-,-,-⟩:=eh.kZ HDp.o;obtain⟨rc,-,-⟩:=eh.aZ.facts;rw[hdv',HDn.o] at rc;clear eh dq hrt hdv';go_wp2_with fail;refine HRT.o.mono ?_;rintro e w5 ⟨rfl,rfl⟩;go_wp2_with fail;go_ret2;rw[HM.o];exact⟨rfl,R',HR.o.1,HR.o.2⟩
      ·have hlim':gl b n=false:=by simpa using hlim
       have HM:=Qf (Ns.o (.inr hlim'));have NG:=Qf (Hj k b n hlim' w2 pw);generalize S.ds.length=m at pc1 M0;clear h8 hlim hlim';go_wp2_with fail;refine NG.o.mono ?_;rintro e w4 ⟨rfl,bU⟩;have l8:=Qf bU;clear bU;go_wp2_with fail;go_ret2;rw[HM.o];exact⟨rfl,R,Gy.o.ak l8.o,aR.ar (au uv.o l8.o)⟩
   ·have HM:=Qf (Kx.o (.inl h1));have q3:(ov != k)=true:=by simpa using h1
    clear h1;go_enter Tryz.func85,Tryz.ntmps85;go_wp2_with fail;refine iW.o.mono ?_;rintro e w1 ⟨rfl,rfl⟩;go_wp2_with fail;refine HG.o.mono ?_;rintro e w1 ⟨rfl,av⟩;have aS:=aq av (.cells #[.int .i64 a.no,.int .i64 a.dev,.int .i64 a.kind,.int .i64 a.mode,.int .i64 a.uid,.int .i64 a.gid,.int .i64 a.mtime,.int .i64 a.ctime,.int .i64 a.ao,.int .i64 a.up,.string a.data,.slice ea el ec] 149);go_wp2_with fail;refine(pO.o _ aS).mono ?_;rintro e w2 ⟨rfl,bK⟩;have cZ:=au aS bK;go_wp2_with fail;go_ret2;rw[HM.o];exact⟨rfl,R,mL.o.ak cZ,aR.ar cZ⟩
  ·have q1:(a.kind != 1)=true:=by simpa using hkd
   have HM:=Qf (show S.bT k b n=(S,0,9) by unfold Fs.bT;rw[hg];simp only;rw[if_pos hkd]);clear h hk hg hkd hao hno hgc;go_enter Tryz.func85,Tryz.ntmps85;go_wp2_with fail;refine iW.o.mono ?_;rintro e w1 ⟨rfl,rfl⟩;go_wp2_with fail;refine HG.o.mono ?_;rintro e w1 ⟨rfl,av⟩;go_wp2_with fail;go_ret2;rw[HM.o];exact⟨rfl,R,mL.o.ak (aq av _),aR.ar (aq av _)⟩
theorem Ej(b n:Int)(hlim:gl b n=true)(w:World) :
  Calls Tryz.prog 83 #[.int .i64 b,.int .i64 n] w fun e w'=>∃pw R,e=.returned (.tuple #[.pointer (some ⟨pw,0,none⟩),.int .i64 0])∧bm w' pw R (p7.aH 0 b n)∧Qi w w'∧∀k,R.F pw k→w.heap.size≤k:=by
 have HN:=Qf (C7 w);go_enter Tryz.func83,Tryz.ntmps83;go_wp2_with fail;refine HN.o.mono ?_;rintro e w1 ⟨rfl,hT,av⟩;have aS:=aq av (.cells #[.pointer (some ⟨w.heap.size+1,0,none⟩),.slice none 0 0] 46);have hW:bm (w1.alloc (.cells #[.pointer (some ⟨w.heap.size+1,0,none⟩),.slice none 0 0] 46)) w1.heap.size ⟨w.heap.size+1,w.heap.size,.slice none 0 0,[],0⟩ p7:=
  ⟨aw.new _ _ _,hT.ak ((Below.refl _ _).alloc (aa _) _),World.ownsRow_nil _ _ _ _,rfl,fun g hg=>by cases hg⟩
 have hF:∀k,Rp.F ⟨w.heap.size+1,w.heap.size,.slice none 0 0,[],0⟩ w1.heap.size k→w.heap.size≤k:=by
  rintro k (hk|hk|hk|hk)
  ·have:=av.size;omega
  ·simp only at hk;omega
  ·simp only at hk;omega
  ·cases hk
 have NG:=Qf (wj hW ⟨List.Pairwise.nil,fun x hx=>by cases hx⟩ (by decide) (by decide) (by decide) 0 b n hlim);have HF:=Qf hF;have dS:=Qf aS;clear hT av aS hW hF;go_wp2_with fail;refine NG.o.mono ?_;rintro e w4 ⟨rfl,R',eh,dq⟩;have HR:=Qf (ag eh dq);clear eh dq;go_wp2_with fail;go_ret2;exact⟨_,R',rfl,HR.o.1,dS.o.trans (HR.o.2.below HF.o dS.o.size),HR.o.2.aX HF.o dS.o.size⟩
end
end
end Go.Proofs.YtabbjaomlmnnhaaGreat
