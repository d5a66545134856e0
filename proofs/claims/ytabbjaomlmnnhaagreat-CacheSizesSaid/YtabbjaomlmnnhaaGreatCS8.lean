import Derived.Deep.CutBlock
import Derived.Deep.DeepCutAuto
import Derived.RegionTactic
import Derived.BigRegion
import Derived.Deep.QuietTactic
import Derived.BigQuiet
import Derived.WalkSmall
import Derived.Shelf.Strings.BuilderK
import Derived.Lib.Join
import Derived.StillTailTactics
import Derived.Test.YtabbjaomlmnnhaaGreatCS7
import Derived.Test.YtabbjaomlmnnhaaGreatCS5
import Derived.Test.YtabbjaomlmnnhaaGreatCS3
import Derived.Test.YtabbjaomlmnnhaaGreatCS2
import Derived.Test.YtabbjaomlmnnhaaGreatCS1
import Derived.Test.YtabbjaomlmnnhaaGreatCS6
set_option linter.unusedVariables false
set_option linter.unusedSimpArgs false
set_option maxRecDepth 100000
set_option maxHeartbeats 16000000
namespace Go.Proofs.YtabbjaomlmnnhaaGreat
section
open Go.RowKit
theorem C6:(Tryz.prog.info? 149).map (fun i=>(i.zero,i.size,i.bytes))=some (some (.agg #[.int .i64 0,.int .i64 0,.int .i64 0,.int .i64 0,.int .i64 0,.int .i64 0,.int .i64 0,.int .i64 0,.int .i64 0,.int .i64 0,.string ByteArray.empty,.slice none 0 0]),12,120):=by kernel_rfl
theorem CM:(Tryz.prog.info? 266).map (fun i=>(i.zero,i.size,i.bytes))=some (some (.agg #[.int .i64 0,.int .i64 0,.int .i64 0,.int .i64 0,.int .i64 0,.int .i64 0]),6,48):=by kernel_rfl
section
variable{w w':World}{pf:Nat}{R:Rf}{S:Fs}
theorem aN.aside(h:aN w pf R S){B:Nat}{vs:Array Value}{T:TypeId}(hB:aw w B vs T)(hF:¬R.F pf B)(hT:T≠98)(i:Nat)(v:Value):aN (w.setCell ⟨B,i,none⟩ v) pf R S:=by
 have hm:Mod (fun k=>k=B) w (w.setCell ⟨B,i,none⟩ v):=(Mod.refl (fun k=>k=B) w).setCell (a:=⟨B,i,none⟩) (.inl rfl) v;refine h.fH (fun k hk=>hm.block k (h.lt hk) (fun e=>hF (e▸hk))) (fun b cur hc=>hm.block b (Array.getElem?_eq_some_iff.1 hc).1 (fun e=>?_)) hm.size;subst e;unfold aw at hB;rw[hB] at hc;injection hc with hc;injection hc with _ hc;exact hT hc
theorem aN.Ii(h:aN w pf R S)(v:Int):aN (w.setCell ⟨pf,2,none⟩ (.int .i64 v)) pf R {S with last:=v}∧Mod (R.F pf) w (w.setCell ⟨pf,2,none⟩ (.int .i64 v)):=by
 have hm:Mod (fun k=>k=pf) w (w.setCell ⟨pf,2,none⟩ (.int .i64 v)):=(Mod.refl (fun k=>k=pf) w).setCell (a:=⟨pf,2,none⟩) (.inl rfl) _;have hM:Mod (R.F pf) w (w.setCell ⟨pf,2,none⟩ (.int .i64 v)):=hm.mono (fun k hk=>.inl hk);refine⟨⟨h.aZ.set 2 _,bI h.re hm (fun k hk e=>?_),bI h.eN hm (fun k hk e=>?_),h.ns,fun x hx=>(h.ay x hx).rf h (aR.cQ hM)⟩,hM⟩
 ·obtain⟨-,hc⟩:=aD h.re e;exact cP hc h.aZ (by decide) hk.symm
 ·obtain⟨-,hc⟩:=aD h.eN e;exact cP hc h.aZ (by decide) hk.symm
theorem aN.appN(h:aN w pf R S)(hl:R.G.length≤1000000)(ad:Addr)(y:Gn)(had:∀j u,(Gn.cs y)[j]?=some u→w.cell? (ad.add j)=some u)(he:aA w y.ea y.el y.ec y.a.ay) :
  ∃g cap W,(Builtin.append_ #[52,52] 52 #[R.nv,.slice (some ad) 1 1]).run Tryz.prog w=.ok (.slice (some ⟨g,0,none⟩) (R.G.length+1) cap) W∧
   aN (W.setCell ⟨pf,0,none⟩ (.slice (some ⟨g,0,none⟩) (R.G.length+1) cap)) pf {R with nv:=.slice (some ⟨g,0,none⟩) (R.G.length+1) cap,G:=R.G++[y]} {S with ns:=S.ns++[y.a]}∧
   aR (R.F pf) (Rf.F {R with nv:=.slice (some ⟨g,0,none⟩) (R.G.length+1) cap,G:=R.G++[y]} pf) w (W.setCell ⟨pf,0,none⟩ (.slice (some ⟨g,0,none⟩) (R.G.length+1) cap))∧
   aw W pf #[R.nv,R.dv,.int .i64 S.last,.int .i64 R.now,R.mR,R.pl,R.dd] 55∧Mod (fun k=>R.nv.ownBlock=some k) w W:=by
 obtain⟨i0,hi,jy,ee,et⟩:=info_parts C6;obtain⟨g,cap,W,h1,h2,h3,h4⟩:=ei (52) Tryz.underlying52 hi jy ee et rfl (by omega) h.re ad 1 1 (Gn.cs y) rfl had (by intro u hu;simp[Gn.cs] at hu;rcases hu with rfl|rfl|rfl|rfl|rfl|rfl|rfl|rfl|rfl|rfl|rfl|rfl<;>rfl) (by omega) (by unfold maxLen;omega) (by omega) (Nat.zero_le _);have hM:Mod (R.F pf) w W:=h3.mono (fun k hk=>.inr (.inl hk));have lK:aw W pf #[R.nv,R.dv,.int .i64 S.last,.int .i64 R.now,R.mR,R.pl,R.dd] 55:=h.aZ.mod h3 (fun hk=>by
  obtain⟨-,hc⟩:=aD h.re hk;exact cP hc h.aZ (by decide) rfl)
 have hpg:pf≠g:=by
  rintro rfl;rcases h4 with h4|h4
  ·obtain⟨-,hc⟩:=aD h.re h4;exact cP hc h.aZ (by decide) rfl
  ·have:=h.aZ.lt;omega
 have iR:aR (R.F pf) (R.F pf) w (W.setCell ⟨pf,0,none⟩ (.slice (some ⟨g,0,none⟩) (R.G.length+1) cap)):=aR.cQ (hM.setCell (.inl (.inl rfl)) _);have hmp:Mod (fun k=>k=pf) W (W.setCell ⟨pf,0,none⟩ (.slice (some ⟨g,0,none⟩) (R.G.length+1) cap)):=(Mod.refl (fun k=>k=pf) W).setCell (a:=⟨pf,0,none⟩) (.inl rfl) _;refine⟨g,cap,W,h1,⟨lK.set 0 _,?_,?_,by rw[h.ns,List.map_append];rfl,fun x hx=>?_⟩,⟨iR.mod,fun k hk=>?_⟩,lK,h3⟩
 ·show World.ownsRow _ 0 149 12 _ (R.G++[y]).length ((R.G++[y]).flatMap Gn.cs);rw[List.length_append,List.length_singleton,List.flatMap_append,List.flatMap_singleton];refine bI h2 hmp (fun k hk e=>?_);subst hk;simp only[Value.ownBlock,Option.some.injEq] at e;exact hpg e.symm
 ·refine bI (bI h.eN h3 (fun k hk e=>?_)) hmp (fun k hk e=>?_)
  ·obtain⟨-,hc⟩:=aD h.re hk;obtain⟨-,cur,eT⟩:=aD h.eN e;exact cP hc (show aw w k cur 266 from eT) (by decide) rfl
  ·obtain⟨-,hc⟩:=aD h.eN e;exact cP hc h.aZ (by decide) hk.symm
 ·rcases List.mem_append.1 hx with hx|hx
  ·exact(h.ay x hx).rf h iR
  ·rw[List.mem_singleton] at hx;subst hx;exact he.rf h iR
 ·rcases hk with hk|hk|hk
  ·exact .inl (.inl hk)
  ·simp only[Value.ownBlock,Option.some.injEq] at hk;subst hk;rcases h4 with h4|h4
   ·exact .inl (.inr (.inl h4))
   ·exact .inr (by omega)
  ·exact .inl (.inr (.inr hk))
theorem wW(h:aN w pf R S){a:An}{ea:Option Addr}{el ec:Nat}(he:aA w ea el ec a.ay)(eR:0≤S.last)(pV:S.last≤1000000)(hgl:R.G.length≤1000000) :
  Calls Tryz.prog 166 #[.pointer (some ⟨pf,0,none⟩),a.v ea el ec] w fun e w'=>e=.returned (.int .i64 (S.last+1))∧∃R',aN w' pf R' (S.add a)∧aR (R.F pf) (R'.F pf) w w'∧Rf.cy R R'∧R'.dv=R.dv:=by
 obtain⟨h1,hM1⟩:=h.Ii (S.last+1);have av:=(Below.refl _ (w.setCell ⟨pf,2,none⟩ (.int .i64 (S.last+1)))).alloc (aa _) (.cells #[.int .i64 (S.last+1),.int .i64 a.dev,.int .i64 a.kind,.int .i64 a.mode,.int .i64 a.uid,.int .i64 a.gid,.int .i64 a.mtime,.int .i64 a.ctime,.int .i64 a.ao,.int .i64 a.up,.string a.data,.slice ea el ec] 149);have h2:=h1.ak av;have xJ:=aw.new (w.setCell ⟨pf,2,none⟩ (.int .i64 (S.last+1))) #[.int .i64 (S.last+1),.int .i64 a.dev,.int .i64 a.kind,.int .i64 a.mode,.int .i64 a.uid,.int .i64 a.gid,.int .i64 a.mtime,.int .i64 a.ctime,.int .i64 a.ao,.int .i64 a.up,.string a.data,.slice ea el ec] 149;rw[World.size_setCell] at xJ;have hne:pf≠w.heap.size:=fun e=>by have:=h.aZ.lt;omega
 have hst:=hM1.trans (Mod.ar av);have mP:=he.rf h (aR.cQ hst);have hF:¬R.F pf w.heap.size:=fun hk=>absurd (h.lt hk) (by omega);have hsa:S.add a={S with ns:=S.ns++[{a with no:=S.last+1}],last:=S.last+1}:=rfl;rw[hsa];obtain⟨pc,pf1,pz⟩:=h.aZ.facts;obtain⟨na,nc,hnv,hnc1,hnc2⟩:=h.Fh;have mixed:Tryz.prog.follows .mixedOrders=true:=by kernel_rfl
 have A2:=Qf h2;have sP:=Qf xJ;have G5:=Qf hst;have bH:=Qf mP;have Ow:=hgl;unfold An.v;clear he h1 hM1 av h2 xJ hst mP hsa;have AF:=aw.new w #[.int .i64 a.no,.int .i64 a.dev,.int .i64 a.kind,.int .i64 a.mode,.int .i64 a.uid,.int .i64 a.gid,.int .i64 a.mtime,.int .i64 a.ctime,.int .i64 a.ao,.int .i64 a.up,.string a.data,.slice ea el ec] 149;obtain⟨qc,qf,qz⟩:=AF.facts;clear AF h;go_enter Tryz.func166,Tryz.ntmps166;go_upto_region 3 with fail;generalize (w.setCell ⟨pf,2,none⟩ (.int .i64 (S.last+1))).alloc (.cells #[.int .i64 (S.last+1),.int .i64 a.dev,.int .i64 a.kind,.int .i64 a.mode,.int .i64 a.uid,.int .i64 a.gid,.int .i64 a.mtime,.int .i64 a.ctime,.int .i64 a.ao,.int .i64 a.up,.string a.data,.slice ea el ec] 149)=X at A2 sP G5 bH⊢;clear pc pf1 pz qc qf qz;have hXz:=G5.o.size;have bK:Qi X (X.alloc (.cells #[.int .i64 (S.last+1),.int .i64 a.dev,.int .i64 a.kind,.int .i64 a.mode,.int .i64 a.uid,.int .i64 a.gid,.int .i64 a.mtime,.int .i64 a.ctime,.int .i64 a.ao,.int .i64 a.up,.string a.data,.slice ea el ec] 149)).drew:=((Below.refl _ X).alloc (aa _) _).drew;obtain⟨g,cap,Y,hrun,GY,I',dX,MT⟩:=(A2.o.ak bK).appN hgl ⟨X.heap.size,0,none⟩ ⟨{a with no:=S.last+1},ea,el,ec,0⟩ (World.news_of_block ((aw.new X #[.int .i64 (S.last+1),.int .i64 a.dev,.int .i64 a.kind,.int .i64 a.mode,.int .i64 a.uid,.int .i64 a.gid,.int .i64 a.mtime,.int .i64 a.ctime,.int .i64 a.ao,.int .i64 a.up,.string a.data,.slice ea el ec] 149).drew)) (bH.o.ak bK);have xJ:=sP.o;obtain⟨xc,xf,xz⟩:=A2.o.aZ.facts;obtain⟨yc,yf,yz⟩:=dX.facts;obtain⟨qc,qf,qz⟩:=xJ.facts;have Oi:aw Y w.heap.size #[.int .i64 (S.last+1),.int .i64 a.dev,.int .i64 a.kind,.int .i64 a.mode,.int .i64 a.uid,.int .i64 a.gid,.int .i64 a.mtime,.int .i64 a.ctime,.int .i64 a.ao,.int .i64 a.up,.string a.data,.slice ea el ec] 149:=(xJ.ak bK).mod MT (fun hk=>hF (.inr (.inl hk)));obtain⟨zc,zf,zz⟩:=Oi.facts;have HWY:=Qf GY;have HSY:=Qf (((aR.cQ G5.o).trans (aR.ar bK)).trans I');rw[hnv] at xc yc hrun;clear GY I' MT dX xJ Oi;have sO:=Qf hrun;clear hrun
 go_cut [] (fun wx=>wx=Y.setCell ⟨pf,0,none⟩ (.slice (some ⟨g,0,none⟩) (R.G.length+1) cap))
 case first=>
  have hrun:=sO.o
  go_region_law_o (refine jY rfl rfl rfl rfl hrun ?_)
  all_goals
   go_wp2_with fail;go_meet;rfl
 case rest=>
  subst hcut;clear xc xf xz yc yf yz qc qf qz;have hne2:¬w.heap.size=pf:=fun e=>hne e.symm;go_wp2_with fail;go_ret;exact⟨rfl,_,HWY.o,HSY.o,⟨rfl,rfl,rfl,rfl⟩,rfl⟩
end
end
section
open Go.RowKit
section
variable{w w':World}{pf:Nat}{R:Rf}{S:Fs}
theorem aN.appD(h:aN w pf R S)(hl:S.ds.length≤1000)(ad:Addr)(y:Dv)(had:∀j u,(Dv.cs y)[j]?=some u→w.cell? (ad.add j)=some u) :
  ∃g cap W,(Builtin.append_ #[53,53] 53 #[R.dv,.slice (some ad) 1 1]).run Tryz.prog w=.ok (.slice (some ⟨g,0,none⟩) (S.ds.length+1) cap) W∧
   aN (W.setCell ⟨pf,1,none⟩ (.slice (some ⟨g,0,none⟩) (S.ds.length+1) cap)) pf {R with dv:=.slice (some ⟨g,0,none⟩) (S.ds.length+1) cap} {S with ds:=S.ds++[y]}∧
   aR (R.F pf) (Rf.F {R with dv:=.slice (some ⟨g,0,none⟩) (S.ds.length+1) cap} pf) w (W.setCell ⟨pf,1,none⟩ (.slice (some ⟨g,0,none⟩) (S.ds.length+1) cap))∧
   aw W pf #[R.nv,R.dv,.int .i64 S.last,.int .i64 R.now,R.mR,R.pl,R.dd] 55∧Mod (fun k=>R.dv.ownBlock=some k) w W:=by
 obtain⟨i0,hi,jy,ee,et⟩:=info_parts CM;obtain⟨g,cap,W,h1,h2,h3,h4⟩:=ei (53) Tryz.underlying53 hi jy ee et rfl (by omega) h.eN ad 1 1 (Dv.cs y) rfl had (by intro u hu;simp[Dv.cs] at hu;rcases hu with rfl|rfl|rfl|rfl|rfl|rfl<;>rfl) (by omega) (by unfold maxLen;omega) (by omega) (Nat.zero_le _);have hM:Mod (R.F pf) w W:=h3.mono (fun k hk=>.inr (.inr hk));have lK:aw W pf #[R.nv,R.dv,.int .i64 S.last,.int .i64 R.now,R.mR,R.pl,R.dd] 55:=h.aZ.mod h3 (fun hk=>by
  obtain⟨-,hc⟩:=aD h.eN hk;exact cP hc h.aZ (by decide) rfl)
 have hpg:pf≠g:=by
  rintro rfl;rcases h4 with h4|h4
  ·obtain⟨-,hc⟩:=aD h.eN h4;exact cP hc h.aZ (by decide) rfl
  ·have:=h.aZ.lt;omega
 have iR:aR (R.F pf) (R.F pf) w (W.setCell ⟨pf,1,none⟩ (.slice (some ⟨g,0,none⟩) (S.ds.length+1) cap)):=aR.cQ (hM.setCell (.inl (.inl rfl)) _);have hmp:Mod (fun k=>k=pf) W (W.setCell ⟨pf,1,none⟩ (.slice (some ⟨g,0,none⟩) (S.ds.length+1) cap)):=(Mod.refl (fun k=>k=pf) W).setCell (a:=⟨pf,1,none⟩) (.inl rfl) _;refine⟨g,cap,W,h1,⟨lK.set 1 _,?_,?_,h.ns,fun x hx=>(h.ay x hx).rf h iR⟩,⟨iR.mod,fun k hk=>?_⟩,lK,h3⟩
 ·refine bI (bI h.re h3 (fun k hk e=>?_)) hmp (fun k hk e=>?_)
  ·obtain⟨-,hc⟩:=aD h.eN hk;obtain⟨-,cur,eT⟩:=aD h.re e;exact cP hc (show aw w k cur 149 from eT) (by decide) rfl
  ·obtain⟨-,hc⟩:=aD h.re e;exact cP hc h.aZ (by decide) hk.symm
 ·show World.ownsRow _ 0 266 6 _ (S.ds++[y]).length ((S.ds++[y]).flatMap Dv.cs);rw[List.length_append,List.length_singleton,List.flatMap_append,List.flatMap_singleton];refine bI h2 hmp (fun k hk e=>?_);subst hk;simp only[Value.ownBlock,Option.some.injEq] at e;exact hpg e.symm
 ·rcases hk with hk|hk|hk
  ·exact .inl (.inl hk)
  ·exact .inl (.inr (.inl hk))
  ·simp only[Value.ownBlock,Option.some.injEq] at hk;subst hk;rcases h4 with h4|h4
   ·exact .inl (.inr (.inr h4))
   ·exact .inr (by omega)
theorem lr(h:aN w pf R S)(d:Int) :
  Calls Tryz.prog 175 #[.pointer (some ⟨pf,0,none⟩),.int .i64 d] w fun e w'=>e=.returned (.int .i64 (S.root d))∧w'=w:=by
 obtain⟨da,dc,hdv,FI,Lj⟩:=h.BK;obtain⟨pc,-,pz⟩:=h.aZ.facts;by_cases h1:1≤d
 ·by_cases h2:d≤S.ds.length
  ·obtain⟨k,rfl⟩:∃k:Nat,d=(k:Int)+1:=⟨(d-1).toNat,by omega⟩;have hk:k<S.ds.length:=by omega
   have hr:S.root ((k:Int)+1)=S.ds[k].root:=by
    unfold Fs.root;rw[if_pos ⟨h1,h2⟩,show((k:Int)+1-1).toNat=k by omega,List.getElem?_eq_getElem hk]
   rw[hr];obtain⟨g,cap,hdv,hle,xZ,hg,hc,-,-⟩:=h.kZ (by omega);rw[hdv] at pc;have hcc:=(hc _ hk).c0;clear hc hr h;generalize S.ds[k]=v at hcc⊢;generalize S.ds.length=n at pc hle h2 hk;go_enter Tryz.func175,Tryz.ntmps175
   go_wp2
   go_ret;exact⟨rfl,rfl⟩
  ·rw[lu (by omega)];have kq:(S.ds.length:Int)<d:=by omega
   rw[hdv] at pc;clear h;generalize S.ds.length=n at pc h2 kq;go_enter Tryz.func175,Tryz.ntmps175
   go_wp2
   go_ret;exact⟨rfl,rfl⟩
 ·rw[lu (by omega)];have oC:d<1:=by omega
  clear h;go_enter Tryz.func175,Tryz.ntmps175
  go_wp2
  go_ret;exact⟨rfl,rfl⟩
theorem tq(h:aN w pf R S)(no:Int) :
  Calls Tryz.prog 172 #[.pointer (some ⟨pf,0,none⟩),.int .i64 no] w fun e w'=>e=.returned (.int .i64 (S.aC no))∧w'=w:=by
 have HW:=Qf h;obtain⟨da,dc,hdv,FI,Lj⟩:=h.BK;have lR:=Qf hdv;obtain⟨pc,-,pz⟩:=h.aZ.facts;rw[hdv] at pc;have oQ:=Qf (fun h0=>Bp S no h0);have nX:=Qf (tF S no);have BO:=Qf (show¬0<no→S.aC no=no from fun h0=>by unfold Fs.aC;rw[if_neg h0]);obtain⟨n,hn⟩:∃n,S.ds.length=n:=⟨_,rfl⟩;have G9:=Qf hn;rw[hn] at pc FI;generalize S.aC no=out at oQ nX BO⊢;clear h hdv hn;go_enter Tryz.func172,Tryz.ntmps172;go_wp2_with fail
 go_loopw [5] (fun t5 wr=>∃k:Nat,k≤n∧t5=.int .i64 k∧(∀j (hj:j<S.ds.length),j<k→0<no→S.ds[j].aC≠no)∧wr=w) (fun t5 _=>n-(intOf t5).toNat)
 case atStart=>exact⟨0,Nat.zero_le _,rfl,fun j _ h=>absurd h (Nat.not_lt_zero _),rfl⟩
 case round=>
  obtain⟨k,hk,rfl,hno,rfl⟩:=hrel;have iW:=Qf hno;clear hno;by_cases hlt:k<n
  ·have hkl:k<S.ds.length:=by rw[G9.o];exact hlt
   obtain⟨g,cap,sG,-,-,hg,hc,-,-⟩:=HW.o.kZ (by omega);have he:=lR.o.symm.trans sG;injection he with BB mP he3;subst BB;obtain⟨c0,c1,-,-,-,-⟩:=hc k hkl;have fY:=Qf (fun h0=>oQ.o h0 k hkl);clear hc sG mP he3;by_cases h0:0<no
   ·by_cases hq:S.ds[k].aC=no
    ·have HR:=Qf (fY.o h0 (fun j hj hjk=>iW.o j hj hjk h0) hq);have hqb:(S.ds[k].aC==no)=true:=by simpa using hq
     generalize S.ds[k]=v at c0 c1 hqb HR;clear hq;go_wp2_with fail;go_ret;exact⟨by rw[HR.o];rfl,rfl⟩
    ·have hqb:(S.ds[k].aC==no)=false:=by simpa using hq
     have A6:=Qf (show∀j (hj:j<S.ds.length),j<k+1→0<no→S.ds[j].aC≠no from fun j hj hjk h0=>by
      by_cases e:j=k
      ·subst e;exact hq
      ·exact iW.o j hj (by omega) h0)
     generalize S.ds[k]=v at c0 c1 hqb;clear hq;go_wp2_with fail;go_roundw
     case rel=>exact⟨k+1,by omega,by go_num,A6.o,by trivial⟩
     case measure=>simp[intOf];omega
   ·have A6:=Qf (show∀j (hj:j<S.ds.length),j<k+1→0<no→S.ds[j].aC≠no from fun j hj hjk h1=>absurd h1 h0);clear c0 c1;go_wp2_with fail;go_roundw
    case rel=>exact⟨k+1,by omega,by go_num,A6.o,by trivial⟩
    case measure=>simp[intOf];omega
  ·obtain rfl:k=n:=by omega
   have HR:=Qf (show out=no by
    by_cases h0:0<no
    ·exact nX.o (fun j hj=>iW.o j hj (by rw[←G9.o];exact hj) h0)
    ·exact BO.o (by omega))
   go_wp2_with fail;go_ret;exact⟨by rw[HR.o];rfl,rfl⟩
end
end
section
open Go.RowKit
section
variable{w w':World}{pf:Nat}{R:Rf}{S:Fs}
theorem yG(S:Fs)(hn:gR S)(aC b n:Int) :
  {((S.add (iG S)).set {iG S with no:=S.last+1,up:=S.last+1}) with ds:=S.ds++[⟨S.last+1,aC,1,1,b,n⟩]}=S.aH aC b n:=by
 unfold Fs.aH Fs.set Fs.add;simp only[List.map_append,List.map_cons,List.map_nil];congr 1;congr 1
 ·conv=>rhs;rw[←List.map_id S.ns]
  apply List.map_congr_left;intro x hx;have:=hn.low x hx;simp only[id_eq];rw[if_neg];simp;omega
 ·simp[iG]
theorem qH(h:aN w pf R S)(hn:gR S)(eR:0≤S.last)(pV:S.last≤100000)(hgl:S.ns.length≤100000)(hd:S.ds.length≤7)(aC b n:Int) :
  Calls Tryz.prog 130 #[.pointer (some ⟨pf,0,none⟩),.int .i64 aC,.int .i64 b,.int .i64 n] w fun e w'=>e=.returned (.int .i64 (S.last+1))∧∃R',aN w' pf R' (S.aH aC b n)∧aR (R.F pf) (R'.F pf) w w'∧Rf.cy R R':=by
 have hlen:=h.len;obtain⟨da,dc,hdv,FI,Lj⟩:=h.BK;obtain⟨pc,-,pz⟩:=h.aZ.facts;rw[hdv] at pc;obtain⟨m,hm⟩:∃m,S.ds.length=m:=⟨_,rfl⟩;have Hm:=Qf hm;obtain⟨S2,jr⟩:∃S2,S.add (iG S)=S2:=⟨_,rfl⟩;obtain⟨a5,D5⟩:∃a5:An,{iG S with no:=S.last+1}=a5:=⟨_,rfl⟩;obtain⟨a6,I9⟩:∃a6:An,{iG S with no:=S.last+1,up:=S.last+1}=a6:=⟨_,rfl⟩;have HAdd:=Qf (show Calls Tryz.prog 166 #[.pointer (some ⟨pf,0,none⟩),.agg #[.int .i64 0,.int .i64 ((m:Int)+1),.int .i64 1,.int .i64 493,.int .i64 0,.int .i64 0,.int .i64 0,.int .i64 0,.int .i64 1,.int .i64 0,.string ByteArray.empty,.slice none 0 0]] w fun e w'=>e=.returned (.int .i64 (S.last+1))∧∃R',aN w' pf R' S2∧aR (R.F pf) (R'.F pf) w w'∧Rf.cy R R'∧R'.dv=R.dv by
  rw[←hm,←jr];exact wW h (a:=iG S) (aA.nil w) eR (by omega) (by omega))
 have GL:=Qf (show S2.get (S.last+1)=some a5 by rw[←jr,←D5,km hn];exact if_pos rfl);have HV5:=Qf (fun(ea:Option Addr) (el ec:Nat)=>show a5.v ea el ec=.agg #[.int .i64 (S.last+1),.int .i64 ((m:Int)+1),.int .i64 1,.int .i64 493,.int .i64 0,.int .i64 0,.int .i64 0,.int .i64 0,.int .i64 1,.int .i64 0,.string ByteArray.empty,.slice ea el ec] by rw[←D5,←hm];rfl);have HV6:=Qf (fun(ea:Option Addr) (el ec:Nat)=>show a6.v ea el ec=.agg #[.int .i64 (S.last+1),.int .i64 ((m:Int)+1),.int .i64 1,.int .i64 493,.int .i64 0,.int .i64 0,.int .i64 0,.int .i64 0,.int .i64 1,.int .i64 (S.last+1),.string ByteArray.empty,.slice ea el ec] by rw[←I9,←hm];rfl);have Qb:=Qf (show a6.no=S.last+1∧a6.ay=a5.ay by rw[←I9,←D5];exact⟨rfl,rfl⟩);have HEq:=Qf (show{(S2.set a6) with ds:=(S2.set a6).ds++[⟨S.last+1,aC,1,1,b,n⟩]}=S.aH aC b n by rw[←jr,←I9];exact yG S hn aC b n);have He:=Qf (show(S2.set a6).ds.length=m by rw[←jr,←hm];rfl);have GG:=Qf (show gR S2 by rw[←jr];exact hn.add eR (iG S));have hmm:(m:Int)≤7:=by omega
 rw[hm] at pc;clear h hm jr D5 I9 hlen hgl;go_enter Tryz.func130,Tryz.ntmps130;go_wp2_with fail;refine HAdd.o.mono ?_;rintro e w5 ⟨rfl,R5,eh,dq,ga,vg⟩;have pM:=Qf (ag eh (ag dq (ag ga vg)));obtain⟨ea,el,ec,hE,hG⟩:=kI eh GL.o;rw[HV5.o] at hG;have HG:=Qf hG;have HE:=Qf hE;clear eh dq ga vg hG hE pc;go_wp2_with fail;refine HG.o.mono ?_;rintro e w6 ⟨rfl,fo⟩;have aI:=aq fo (.cells #[.int .i64 (S.last+1),.int .i64 ((m:Int)+1),.int .i64 1,.int .i64 493,.int .i64 0,.int .i64 0,.int .i64 0,.int .i64 0,.int .i64 1,.int .i64 (S.last+1),.string ByteArray.empty,.slice ea el ec] 149);have ed:=Qf (jE (pM.o.1.ak aI) GG.o (a:=a6) (ea:=ea) (el:=el) (ec:=ec) (by rw[Qb.o.2];exact HE.o.ak aI) (b:=a5) (by rw[Qb.o.1];exact GL.o));rw[HV6.o] at ed;have jx:=Qf fo;have aW:=Qf aI;clear fo aI;go_wp2_with fail;refine ed.o.mono ?_;rintro e w7 ⟨rfl,R7,Aw,iU,F0,OD⟩;obtain⟨xc,xf,xz⟩:=Aw.aZ.facts;have Li:R7.dv=.slice da m dc:=by rw[OD,pM.o.2.2.2,hdv,Hm.o]
 rw[Li] at xc;have mQ:Qi w7 (w7.alloc (.cells #[.int .i64 (S.last+1),.int .i64 aC,.int .i64 1,.int .i64 1,.int .i64 b,.int .i64 n] 266)):=(Below.refl _ w7).alloc (aa _) _;obtain⟨g,cap,Y,hrun,GY,I',dX,MT⟩:=(Aw.ak mQ).appD (by rw[He.o];omega) ⟨w7.heap.size,0,none⟩ ⟨S.last+1,aC,1,1,b,n⟩ (World.news_of_block (aw.new w7 #[.int .i64 (S.last+1),.int .i64 aC,.int .i64 1,.int .i64 1,.int .i64 b,.int .i64 n] 266));obtain⟨yc,yf,yz⟩:=dX.facts;rw[He.o,Li] at hrun;rw[Li] at yc;rw[HEq.o] at GY;rw[He.o] at GY I';have HF:=Qf (ag GY (ag ((((pM.o.2.1.trans (aR.ar aW.o)).trans iU).trans (aR.ar mQ)).trans I') (pM.o.2.2.1.trans F0)));have HR:=Qf hrun;clear Aw iU F0 OD mQ GY I' dX MT hrun;go_wp2_with (at_builtin;refine aL rfl rfl rfl rfl HR.o ?_);go_ret;exact⟨rfl,_,HF.o.1,HF.o.2.1,⟨HF.o.2.2.now,HF.o.2.2.mR,HF.o.2.2.pl,HF.o.2.2.dd⟩⟩
end
end
section
open Go.RowKit
def Iq:Rf:=⟨.slice none 0 0,.slice none 0 0,[],0,.int .i64 0,.slice none 0 0,.bool false⟩
theorem ET(b n:Int)(hlim:gl b n=true)(w:World) :
  Calls Tryz.prog 92 #[.int .i64 b,.int .i64 n] w fun e w'=>∃pf R',e=.returned (.pointer (some ⟨pf,0,none⟩))∧aN w' pf R' (p7.aH 0 b n)∧(∀k,R'.F pf k→w.heap.size≤k)∧Rf.cy Iq R'∧Qi w w':=by
 have cH:=(Below.refl _ w).alloc (aa _) (.cells #[.slice none 0 0,.slice none 0 0,.int .i64 0,.int .i64 0,.int .i64 0,.slice none 0 0,.bool false] 55);have h0:aN (w.alloc (.cells #[.slice none 0 0,.slice none 0 0,.int .i64 0,.int .i64 0,.int .i64 0,.slice none 0 0,.bool false] 55)) w.heap.size Iq p7:=
  ⟨aw.new w _ _,World.ownsRow_nil _ _ _ _,World.ownsRow_nil _ _ _ _,rfl,fun g hg=>by cases hg⟩
 have Kv:=Qf (qH h0 ⟨List.Pairwise.nil,fun x hx=>by simp[p7] at hx⟩ (by decide) (by decide) (by decide) (by decide) 0 b n);have oR:=Qf (fun w=>j8 b n w);rw[hlim] at oR;have bP:=Qf cH;clear h0 cH hlim;go_enter Tryz.func92,Tryz.ntmps92;go_wp2_with fail;refine(oR.o _).mono ?_;rintro e w1 ⟨rfl,rfl⟩;go_wp2_with fail;refine Kv.o.mono ?_;rintro e w2 ⟨rfl,R',hR,hS,hL⟩;have HX:=Qf (ag hR (ag hS hL));clear hR hS hL;go_wp2_with fail;go_ret;have hF:∀k,Iq.F w.heap.size k→w.heap.size≤k:=fun k hk=>by
  rcases hk with rfl|hk|hk
  ·exact aa _
  ·cases hk
  ·cases hk
 exact⟨_,R',rfl,HX.o.1,HX.o.2.1.aX hF (by simp),HX.o.2.2,bP.o.trans (HX.o.2.1.below hF (by simp))⟩
section
variable{w w':World}{pf:Nat}{R:Rf}{S:Fs}
theorem qK(h:aN w pf R S){N:Nat}(hk:ax S N)(hN:N≤100000)(hgl:S.ns.length≤100000)(no b n:Int) :
  Calls Tryz.prog 133 #[.pointer (some ⟨pf,0,none⟩),.int .i64 no,.int .i64 b,.int .i64 n] w fun e w'=>e=.returned (.tuple #[.int .i64 (S.bT no b n).2.1,.int .i64 (S.bT no b n).2.2])∧∃R',aN w' pf R' (S.bT no b n).1∧aR (R.F pf) (R'.F pf) w w'∧Rf.cy R R':=by
 have hkeep:∀w2,Qi w w2→∃R',aN w2 pf R' S∧aR (R.F pf) (R'.F pf) w w2∧Rf.cy R R':=fun w2 hb=>⟨R,h.ak hb,aR.ar hb,Rf.cy.refl R⟩;have jS:=Qf hkeep;have HW:=Qf h;have HK:=Qf hk
 cases hg:S.get no with
 |none=>
  have HM:=Qf (show S.bT no b n=(S,0,5) by unfold Fs.bT;rw[hg]);have HG:=Qf (lx h hg);unfold An.v cS at HG;clear h hk hg hkeep;go_enter Tryz.func133,Tryz.ntmps133;go_wp2_with fail;refine HG.o.mono ?_;rintro e w1 ⟨rfl,av⟩;have HB:=Qf (aq av (.cells #[.int .i64 0,.int .i64 0,.int .i64 0,.int .i64 0,.int .i64 0,.int .i64 0,.int .i64 0,.int .i64 0,.int .i64 0,.int .i64 0,.string ByteArray.empty,.slice none 0 0] 149));clear av;go_wp2_with fail;go_ret2;rw[HM.o];exact⟨rfl,jS.o _ HB.o⟩
 |some a=>
  obtain⟨hao,hno,h1,-⟩:=hk.get hg;obtain⟨ea,el,ec,-,hgc⟩:=kI h hg;have HG:=Qf hgc;unfold An.v at HG;have hz:(a.no==0)=false:=by simp only[beq_eq_false_iff_ne,ne_eq];omega
  have HM:=Qf (show S.bT no b n=if a.kind≠1 then(S,0,9) else if S.aC no≠no∨S.root a.dev=no then(S,0,16) else if 8≤S.ds.length∨gl b n=false then(S,0,3) else(S.aH no b n,S.last+1,0) by unfold Fs.bT;rw[hg]);have so:=Qf (fun w1 (av:Qi w w1)=>lr (h.ak av) a.dev);have pO:=Qf (fun w1 (av:Qi w w1)=>tq (h.ak av) no);have oR:=Qf (fun w=>j8 b n w);obtain⟨da,dc,hdv,FI,Lj⟩:=h.BK;obtain⟨pc,-,pz⟩:=h.aZ.facts;rw[hdv] at pc;generalize hov:S.aC no=ov at HM pO;generalize hrt:S.root a.dev=rt at HM so;have cH:∀w1,Qi w w1→Qi w (w1.alloc (.cells #[.int .i64 a.no,.int .i64 a.dev,.int .i64 a.kind,.int .i64 a.mode,.int .i64 a.uid,.int .i64 a.gid,.int .i64 a.mtime,.int .i64 a.ctime,.int .i64 a.ao,.int .i64 a.up,.string a.data,.slice ea el ec] 149)):=fun w1 hb=>aq hb _;have bP:=Qf cH;have Kv:=Qf (fun w1 (av:Qi w w1) (hd:S.ds.length≤7)=>qH (h.ak av) hk.nums hk.l0 (by have:=hk.lN;omega) hgl hd no b n);obtain⟨m,hm⟩:∃m,S.ds.length=m:=⟨_,rfl⟩;rw[hm] at pc HM Kv;clear h hk hg hgc hao hkeep hno hov hrt hdv hm cH h1 FI;go_enter Tryz.func133,Tryz.ntmps133;go_wp2_with fail;refine HG.o.mono ?_;rintro e w1 ⟨rfl,av⟩;have aI:=bP.o w1 av;have eU:=aw.new w1 #[.int .i64 a.no,.int .i64 a.dev,.int .i64 a.kind,.int .i64 a.mode,.int .i64 a.uid,.int .i64 a.gid,.int .i64 a.mtime,.int .i64 a.ctime,.int .i64 a.ao,.int .i64 a.up,.string a.data,.slice ea el ec] 149;go_upto_region 2 with fail;generalize w1.alloc _=X at aI eU⊢;have aW:=Qf aI;obtain⟨qc,qf,qz⟩:=eU.facts;have pc2:=fun i=>(aI.cell (p:=⟨pf,i,none⟩) pz).trans (pc i);clear av aI eU pc;by_cases h1:a.kind=1
  ·have q1:(a.kind==1)=true:=by simpa using h1
   have q2:(a.kind != 1)=false:=by simpa using h1
   have yP:=Qf (HM.o.trans (if_neg (by simpa using h1)));clear h1;by_cases h2:ov=no
   ·by_cases h3:rt=no
    ·have p':=Qf (yP.o.trans (if_pos (.inr h3)));have q3:(ov != no)=false:=by simpa using h2
     have q4:(rt==no)=true:=by simpa using h3
     clear h2 h3;go_wp2_with fail;refine(pO.o _ aW.o).mono ?_;rintro e w2 ⟨rfl,rfl⟩;go_wp2_with fail;refine(so.o _ aW.o).mono ?_;rintro e w2 ⟨rfl,rfl⟩;go_wp2_with fail;go_ret2;rw[p'.o];exact⟨rfl,jS.o _ aW.o⟩
    ·have p':=Qf (yP.o.trans (if_neg (by rintro(h|h);exact h h2;exact h3 h)));have q3:(ov != no)=false:=by simpa using h2
     have q4:(rt==no)=false:=by simpa using h3
     clear h2 h3;by_cases h4:8≤m
     ·have Hc:=Qf (p'.o.trans (if_pos (.inl h4)));have q5:(8:Int)≤(m:Int):=by omega
      clear h4;go_wp2_with fail;refine(pO.o _ aW.o).mono ?_;rintro e w2 ⟨rfl,rfl⟩;go_wp2_with fail;refine(so.o _ aW.o).mono ?_;rintro e w2 ⟨rfl,rfl⟩;go_wp2_with fail;go_ret2;rw[Hc.o];exact⟨rfl,jS.o _ aW.o⟩
     ·have q5:¬(8:Int)≤(m:Int):=by omega
      have HM7:=Qf (show m≤7 by omega)
      cases hl:gl b n with
      |false=>
       have Hc:=Qf (p'.o.trans (if_pos (.inr hl)));rw[hl] at oR;clear h4 hl;go_wp2_with fail;refine(pO.o _ aW.o).mono ?_;rintro e w2 ⟨rfl,rfl⟩;go_wp2_with fail;refine(so.o _ aW.o).mono ?_;rintro e w2 ⟨rfl,rfl⟩;go_wp2_with fail;refine(oR.o _).mono ?_;rintro e w2 ⟨rfl,rfl⟩;go_wp2_with fail;go_ret2;rw[Hc.o];exact⟨rfl,jS.o _ aW.o⟩
      |true=>
       have Hc:=Qf (p'.o.trans (if_neg (by rintro(h|h);exact h4 h;rw[hl] at h;cases h)));rw[hl] at oR;clear h4 hl;go_wp2_with fail;refine(pO.o _ aW.o).mono ?_;rintro e w2 ⟨rfl,rfl⟩;go_wp2_with fail;refine(so.o _ aW.o).mono ?_;rintro e w2 ⟨rfl,rfl⟩;go_wp2_with fail;refine(oR.o _).mono ?_;rintro e w2 ⟨rfl,rfl⟩;go_wp2_with fail;refine(Kv.o _ aW.o HM7.o).mono ?_;rintro e w3 ⟨rfl,R',hR,hS,hL⟩;have HF:=Qf (ag hR (ag ((aR.ar aW.o).trans hS) hL));clear hR hS hL;go_wp2_with fail;go_ret2;rw[Hc.o];exact⟨rfl,R',HF.o.1,HF.o.2.1,HF.o.2.2⟩
   ·have p':=Qf (yP.o.trans (if_pos (.inl h2)));have q3:(ov != no)=true:=by simpa using h2
    clear h2;go_wp2_with fail;refine(pO.o _ aW.o).mono ?_;rintro e w2 ⟨rfl,rfl⟩;go_wp2_with fail;go_ret2;rw[p'.o];exact⟨rfl,jS.o _ aW.o⟩
  ·have q1:(a.kind==1)=false:=by simpa using h1
   have q2:(a.kind != 1)=true:=by simpa using h1
   have yP:=Qf (HM.o.trans (if_pos (by simpa using h1)));clear h1;go_wp2_with fail;go_ret2;rw[yP.o];exact⟨rfl,jS.o _ aW.o⟩
end
end
section
open Go.RowKit
section
variable{w w':World}{pf:Nat}{R:Rf}{S:Fs}
theorem zS(h:aN w pf R S){N:Nat}(hk:ax S N)(no:Int) :
  Calls Tryz.prog 171 #[.pointer (some ⟨pf,0,none⟩),.int .i64 no] w fun e w'=>e=.returned (.int .i64 (S.aX no))∧Qi w w':=by
 have mixed:Tryz.prog.follows .mixedOrders=true:=by kernel_rfl
 cases hg:S.get no with
 |none=>
  have HA:=Qf (iN hg);have HG:=Qf (lx h hg);unfold An.v cS at HG;clear h hk hg;go_enter Tryz.func171,Tryz.ntmps171;go_wp2_with fail;refine HG.o.mono ?_;rintro e w1 ⟨rfl,av⟩;have HB:=Qf (aq av (.cells #[.int .i64 0,.int .i64 0,.int .i64 0,.int .i64 0,.int .i64 0,.int .i64 0,.int .i64 0,.int .i64 0,.int .i64 0,.int .i64 0,.string ByteArray.empty,.slice none 0 0] 149));clear av;go_wp2_with fail;go_ret;rw[HA.o];exact⟨rfl,HB.o⟩
 |some a=>
  obtain⟨hao,hno,nR,-⟩:=hk.get hg;obtain⟨ea,el,ec,-,hgc⟩:=kI h hg;have HG:=Qf hgc;unfold An.v at HG;have HA:=Qf (show S.aX no=if a.kind≠1 then 0 else if S.root a.dev=no∧1<a.dev then(match S.dev a.dev with|none=>0|some v=>match S.get v.aC with|none=>0|some b=>b.up) else a.up by unfold Fs.aX;rw[hg];rfl);have so:=Qf (fun w1 (av:Qi w w1)=>lr (h.ak av) a.dev);have bP:=Qf (show∀w1,Qi w w1→Qi w (w1.alloc (.cells #[.int .i64 a.no,.int .i64 a.dev,.int .i64 a.kind,.int .i64 a.mode,.int .i64 a.uid,.int .i64 a.gid,.int .i64 a.mtime,.int .i64 a.ctime,.int .i64 a.ao,.int .i64 a.up,.string a.data,.slice ea el ec] 149)) from fun w1 hb=>aq hb _);obtain⟨v,hv,hrv,-,-⟩:=j4 hk hao.dev.1 hao.dev.2;obtain⟨g,cap,hdv,hle,xZ,hgl,hc,-,-⟩:=h.kZ hk.d1;obtain⟨pc,-,pz⟩:=h.aZ.facts;rw[hdv] at pc;obtain⟨k,hkd⟩:∃k:Nat,a.dev=(k:Int)+1:=⟨(a.dev-1).toNat,by have:=hao.dev.1;omega⟩;have hkl:k<S.ds.length:=by have:=hao.dev.2;omega
  have hvk:S.ds[k]=v:=by
   unfold Fs.dev at hv;rw[if_pos (by omega),hkd,show((k:Int)+1-1).toNat=k by omega,List.getElem?_eq_getElem hkl] at hv;simpa using hv
  have cc:=(hc k hkl).c1;rw[hvk] at cc;rw[hv] at HA;have HGv:=Qf (fun w1 (av:Qi w w1)=>ag (fun(hgv:S.get v.aC=none)=>lx (h.ak av) hgv) (fun b (hgv:S.get v.aC=some b)=>kI (h.ak av) hgv));have HGp:=Qf pc;generalize hrt:S.root a.dev=rt at HA so;have hkl2:k<S.ds.length:=hkl;generalize S.ds.length=m at pc hle hkl2;clear h hg hgc hao hrv hv hc hdv hvk hkl hrt hk hno HGp;rw[hkd] at HG so HA bP;have hkm:(k:Int)+1≤(m:Int):=by omega
  go_enter Tryz.func171,Tryz.ntmps171;go_wp2_with fail;refine HG.o.mono ?_;rintro e w1 ⟨rfl,av⟩;have aI:=bP.o w1 av;have eU:=aw.new w1 #[.int .i64 a.no,.int .i64 ((k:Int)+1),.int .i64 a.kind,.int .i64 a.mode,.int .i64 a.uid,.int .i64 a.gid,.int .i64 a.mtime,.int .i64 a.ctime,.int .i64 a.ao,.int .i64 a.up,.string a.data,.slice ea el ec] 149;go_upto_region 2 with fail;generalize w1.alloc _=X at aI eU⊢;have aW:=Qf aI;have dO:=Qf eU;have sD:=av.size;obtain⟨qc,qf,qz⟩:=eU.facts;have pc2:=fun i=>(aI.cell (p:=⟨pf,i,none⟩) pz).trans (pc i);have cc2:=(aI.cell (p:=⟨g,k*6+1,none⟩) hgl).trans cc;have Ow:g<X.heap.size:=Nat.lt_of_lt_of_le hgl aI.size;clear av aI eU pc cc;by_cases h1:a.kind=1
  ·have q1:(a.kind==1)=true:=by simpa using h1
   have q2:(a.kind != 1)=false:=by simpa using h1
   have Qc:=Qf (HA.o.trans (if_neg (by simpa using h1)));clear h1;by_cases h2:1<(k:Int)+1
   ·by_cases h3:rt=no
    ·have nP:=Qf (Qc.o.trans (if_pos ⟨h3,h2⟩));have q3:(rt==no)=true:=by simpa using h3
     clear h3;go_wp2_with fail;refine(so.o _ aW.o).mono ?_;rintro e w2 ⟨rfl,rfl⟩;go_wp2_with fail;have hwr1:IntKind.i64.wrap ((k:Int)+1-1)=(k:Int):=by simp[IntKind.wrap,IntKind.bits,IntKind.signed];omega
     have hwr2:IntKind.i64.wrap (k:Int)=(k:Int):=by simp[IntKind.wrap,IntKind.bits,IntKind.signed];omega
     have MG:(0:Int)≤(k:Int)∧(k:Int)<(m:Int)∧((k:Int)).toNat=k:=by omega
     obtain⟨gD,ij,gm⟩:=MG;refine aG 11 mixed (by kernel_rfl) (show bL _ from by repeat (first|exact cG|refine cF ?_|refine bR ?_|refine cd ?_)) ?_;simp only[List.take_succ_cons,List.take_zero,List.drop_succ_cons,List.drop_zero]
     repeat still_step
     refine wpStill_nil ?_
     cases hgv:S.get v.aC with
     |none=>
      have HC:=Qf (((HGv.o _ aW.o.drew).1 hgv));unfold An.v cS at HC;have NH:=Qf (show S.aX no=0 by rw[nP.o,hgv]);clear hgv qc qf qz pc2 cc2;go_wp2_with fail;refine HC.o.mono ?_;rintro e w3 ⟨rfl,bK⟩;have tT:=(dO.o.drew).ak bK;obtain⟨qc,qf,qz⟩:=tT.facts;have fG:=Qf (aW.o.drew.trans (bK.mono (by have:=aW.o.size;simpa using this)));clear bK tT;go_wp2_with fail;go_ret;rw[NH.o];exact⟨rfl,aT fG.o sD⟩
     |some b=>
      obtain⟨fa,fl,fc,-,hcb⟩:=(HGv.o _ aW.o.drew).2 b hgv;have HC:=Qf hcb;unfold An.v at HC;have NH:=Qf (show S.aX no=b.up by rw[nP.o,hgv]);clear hgv hcb qc qf qz pc2 cc2;go_wp2_with fail;refine HC.o.mono ?_;rintro e w3 ⟨rfl,bK⟩;have tT:=(dO.o.drew).ak bK;obtain⟨qc,qf,qz⟩:=tT.facts;have fG:=Qf (aW.o.drew.trans (bK.mono (by have:=aW.o.size;simpa using this)));clear bK tT;go_wp2_with fail;go_ret;rw[NH.o];exact⟨rfl,aT fG.o sD⟩
    ·have nP:=Qf (Qc.o.trans (if_neg (fun h=>h3 h.1)));have q3:(rt==no)=false:=by simpa using h3
     clear h3;go_wp2_with fail;refine(so.o _ aW.o).mono ?_;rintro e w2 ⟨rfl,rfl⟩;go_wp2_with fail;go_ret;rw[nP.o];exact⟨rfl,aW.o⟩
   ·have nP:=Qf (Qc.o.trans (if_neg (fun h=>h2 h.2)));go_wp2_with fail;go_ret;rw[nP.o];exact⟨rfl,aW.o⟩
  ·have q1:(a.kind==1)=false:=by simpa using h1
   have q2:(a.kind != 1)=true:=by simpa using h1
   have Qc:=Qf (HA.o.trans (if_pos (by simpa using h1)));clear h1;go_wp2_with fail;go_ret;rw[Qc.o];exact⟨rfl,aW.o⟩
end
end
section
open Go.RowKit
section
variable{w w':World}{pf:Nat}{R:Rf}{S:Fs}
end
end
section
open Go.RowKit
def qj(o:Option ByteArray):Value:=.tuple #[.string (o.getD ByteArray.empty),.bool o.isSome]
def nmOf(l:List En)(no:Int):ByteArray:=(dy l no).getD ByteArray.empty
section
variable{w w':World}{pf:Nat}{R:Rf}{S:Fs}
end
end
section
open Go.RowKit
theorem vr{es:List En}{no:Int}{k:Nat}(hk:k<es.length):dy (es.drop k) no=if es[k].no=no then some es[k].name else dy (es.drop (k+1)) no:=by
 rw[List.drop_eq_getElem_cons hk,vt]
theorem DA(es:List En)(a:Option Addr)(n c:Nat)(no:Int)(w:World)(he:aA w a n c es) :
  Calls Tryz.prog 142 #[.slice a n c,.int .i64 no] w fun e w'=>e=.returned (qj (dy es no))∧Qi w w':=by
 have hl:=he.len;subst hl;have iS:=he.sl.2.1;have eT:=he.sl.2.2.1;have HE:=Qf he;have HS:=Qf (show dy es no=dy (es.drop 0) no from rfl);generalize dy es no=out at HS⊢;clear he;go_enter Tryz.func142,Tryz.ntmps142;go_wp2_with fail
 go_loopw [10] (fun t10 wr=>∃k:Nat,k≤es.length∧t10=.int .i64 k∧out=dy (es.drop k) no∧Qi w wr) (fun t10 _=>es.length-(intOf t10).toNat)
 case atStart=>exact⟨0,Nat.zero_le _,rfl,HS.o,Below.refl _ _⟩
 case round=>
  obtain⟨k,hk,rfl,hf,hb⟩:=hrel;by_cases hlt:k<es.length
  ·have mP:=HE.o.ak hb;obtain⟨b,off,rfl,hbl⟩:=mP.dL (by omega);obtain⟨c0,c1⟩:=mP.cell k hlt;rw[vr hlt] at hf;have HF:=Qf hf;have HB:=Qf hb;generalize es[k]=x at c0 c1 HF;clear hf hb mP;by_cases hx:x.no=no
   ·have HR:=Qf (HF.o.trans (if_pos hx));have hq:(x.no==no)=true:=by simpa using hx
    clear hx;go_wp2_with fail;go_ret2;exact⟨by rw[HR.o];rfl,aq HB.o _⟩
   ·have HR:=Qf (HF.o.trans (if_neg hx));have hq:(x.no==no)=false:=by simpa using hx
    clear hx;go_wp2_with fail;go_roundw
    case measure=>simp[intOf];omega
    case rel=>exact⟨k+1,by omega,by go_num,HR.o,aq HB.o _⟩
  ·obtain rfl:k=es.length:=by omega
   rw[List.drop_length] at hf;have HR:=Qf (show out=none from hf);have HB:=Qf hb;clear hf hb;go_wp2_with fail;go_ret2;exact⟨by rw[HR.o];rfl,HB.o⟩
section
variable{w w':World}{pw:Nat}{R:Rp}{S:Fs}
def useV(S:Fs)(d:Int):Value:=match S.dev d with
 |some v=>.agg #[.int .i64 v.b,.int .i64 v.n,.int .i64 v.mb,.int .i64 v.mn]
 |none=>.agg #[.int .i64 0,.int .i64 0,.int .i64 0,.int .i64 0]
end
end
section
open Go.RowKit
def lT(b:Nat)(l:List UInt8)(w:World):Prop:=Lib.IsBuilderF 117 5 b b (Lib.byteCells l) w
theorem lT.of{b:Nat}{l:List UInt8}{w:World}(h:sX b l w):lT b l w:=Lib.IsBuilderF.of h
theorem lT.lt{b:Nat}{l:List UInt8}{w:World}(h:lT b l w):b<w.heap.size:=by
 rcases h with h|h<;>exact h.lt
theorem z6{w w':World}{base:Nat}{e:TypeId}{sz n:Nat}{v:Value}{xs:List Value}(h:w.ownsRowF base e sz v n xs)(hm:Qi w w'):w'.ownsRowF base e sz v n xs:=by
 refine⟨h.1,h.2.imp id fun⟨g,cap,cur,fz,hv,hb,hg,rest⟩=>⟨g,cap,cur,fz,hv,hb,?_,rest⟩⟩;rw[hm.block g (Array.getElem?_eq_some_iff.1 hg).1];exact hg
theorem ub{T e:TypeId}{B b:Nat}{p:Value}{bs:List Value}{w w':World}(h:Lib.BuilderAtF T e B b p bs w)(hm:Qi w w'):Lib.BuilderAtF T e B b p bs w':=by
 have hlt:=h.lt;obtain⟨hB,v,hb,hown,hne⟩:=h;exact⟨hB,v,(hm.block b hlt).trans hb,z6 hown hm,hne⟩
theorem lT.below{b:Nat}{l:List UInt8}{w w':World}(h:lT b l w)(hm:Qi w w'):lT b l w':=
 h.imp (fun h=>ub h hm) (fun h=>ub h hm)
abbrev Oth(b:Nat)(w w':World):Prop:=Lib.OthersKept 5 (some b) w w'
theorem aw.oth{w w':World}{b B:Nat}{vs:Array Value}{T:TypeId}(h:aw w B vs T)(ho:Oth b w w')(hne:B≠b)(hT:T≠5):aw w' B vs T:=
 ho B _ h (fun e=>hne (Option.some.inj e)) (fun c fz e=>hT (by injection e))
theorem A9(b:Nat)(l:List UInt8)(s:ByteArray)(w:World)(h:lT b l w)(hl:l.length≤1000000000)(hm:s.size≤1000000000) :
  Calls Tryz.prog 43 #[.pointer (some ⟨b,0,none⟩),.string s] w fun e w'=>e=.returned (.tuple #[.int .i64 s.size,.nilIface])∧lT b (l++s.data.toList) w'∧Below b w w'∧Oth b w w':=by
 refine(Any.Builder_WriteString_k Tryz.By Tryz.jk b b (Lib.byteCells l) s w h (by rw[gI];omega) (Nat.le_of_lt h.lt)).mono ?_;rintro e w' ⟨rfl,h1,h2,h3⟩;refine⟨rfl,.inr ?_,h2,h3⟩;have:Lib.byteCells (l++s.data.toList)=Lib.byteCells l++Lib.strCells s:=by simp[Lib.byteCells,Lib.strCells]
 rw[this];exact h1
theorem BM(b:Nat)(l:List UInt8)(w:World)(h:lT b l w)(h0:l≠[]) :
  Calls Tryz.prog 46 #[.pointer (some ⟨b,0,none⟩)] w fun e w'=>e=.returned (.string (str l))∧Below b w w':=by
 refine(Any.Builder_String_k Tryz.Bw Tryz.jj b b l w h h0).mono ?_;rintro e w' ⟨rfl,-,h2,-⟩;exact⟨rfl,h2⟩
end
section
open Go.RowKit
instance N9:LawfulBEq ByteArray where
 eq_of_beq {a b} h:=by
  obtain⟨a⟩:=a;obtain⟨b⟩:=b;have h2:(a==b)=true:=h;rw[eq_of_beq h2]
 rfl {a}:=by
  obtain⟨a⟩:=a;show(a==a)=true;simp
def entS(x:ByteArray×Value×Nat):MapEntry:={key:=.string x.1,val:=x.2.1,born:=x.2.2}
def MapBS(w:World)(m:Nat)(l:List (ByteArray×Value×Nat))(ey:Nat):Prop:=w.heap[m]?=some (.map (l.map entS).toArray ey)
def Na(l:List (ByteArray×Value×Nat)):Prop:=(l.map (·.1)).Nodup
def N7(l:List (ByteArray×Value×Nat))(k:ByteArray):Option Value:=(l.find? (fun x=>x.1==k)).map (·.2.1)
def mapPutS(l:List (ByteArray×Value×Nat))(k:ByteArray)(v:Value):List (ByteArray×Value×Nat):=l.map fun x=>if x.1==k then(k,v,x.2.2) else x
def mapDelS(l:List (ByteArray×Value×Nat))(k:ByteArray):List (ByteArray×Value×Nat):=l.filter fun x=>!(x.1==k)
section
variable{P:Program}{K E T:TypeId}{w:World}{m:Nat}{l:List (ByteArray×Value×Nat)}{ey:Nat}
end
end
section
open Go.RowKit
def ddB:List UInt8:=[46,46]
def clS(whole:Bool)(out:List (List UInt8))(p:List UInt8):List (List UInt8):=
 if p≠ddB then out++[p] else if out≠[]∧out.getLast?≠some ddB then out.dropLast else if whole then out else out++[p]
def clL(whole:Bool)(l:List (List UInt8)):List (List UInt8):=l.foldl (clS whole) []
def uy(s:List UInt8):Bool:=s.head?==some 47
def LV(s:List UInt8):List UInt8:=
 if uy s then 47::Lib.join (clL true (bF s)) [47] else if Lib.join (clL false (bF s)) [47]=[] then[46] else Lib.join (clL false (bF s)) [47]
def jt(s:ByteArray):ByteArray:=str (LV s.data.toList)
def onceL(l:List ByteArray):List ByteArray:=l.foldl (fun out p=>if p∈out then out else out++[p]) []
end
section
open Go.RowKit
theorem pH{α:Type}{p:α→Bool}(l:List α)(k:Nat)(hk:k<l.length)(h:p l[k]=true):(l.take (k+1)).filter p=(l.take k).filter p++[l[k]]:=by
 rw[List.take_succ_eq_append_getElem hk,List.filter_append];simp[h]
theorem rK{α:Type}{p:α→Bool}(l:List α)(k:Nat)(hk:k<l.length)(h:p l[k]=false):(l.take (k+1)).filter p=(l.take k).filter p:=by
 rw[List.take_succ_eq_append_getElem hk,List.filter_append];simp[h]
theorem OS.len{w:World}{base:Nat}{v:Value}{ls:List (List UInt8)}(h:OS w base v ls):∃a c,v=.slice a ls.length c∧ls.length≤c∧c≤9223372036854775807:=by
 obtain⟨a,c,h1,h2,h3,-⟩:=bC h;exact⟨a,c,h1,h2,h3⟩
theorem OS.ry{w w':World}{base:Nat}{v:Value}{ls:List (List UInt8)}(h:OS w base v ls)(hb:Qi w w'):OS w' base v ls:=dD h hb (aa _)
theorem OS.at'{w:World}{base c:Nat}{a:Option Addr}{ls:List (List UInt8)}(h:OS w base (.slice a ls.length c) ls)(k:Nat)(hk:k<ls.length):∃g,a=some ⟨g,0,none⟩∧g<w.heap.size∧w.cell? ⟨g,k,none⟩=some (.string (str ls[k])):=by
 obtain⟨a',c',hv,-,-,h1⟩:=bC h;injection hv with e1 e2 e3;subst e1;subst e3;rcases h1 with⟨-,h2,-⟩|⟨g,rfl,-,h3⟩
 ·omega
 ·exact⟨g,rfl,h3,h.cell k hk⟩
theorem OS.low2{w:World}{base base':Nat}{v:Value}{ls:List (List UInt8)}(h:OS w base v ls)(hb:base'≤base):OS w base' v ls:=
 ⟨h.1,h.2.imp id fun⟨g,cap,cur,hv,hg,rest⟩=>⟨g,cap,cur,hv,ae hb hg,rest⟩⟩
def qD(p:List UInt8):Bool:=!(p==[]) && !(p==[46])
theorem qI(s:ByteArray)(w:World)(hs:s.size≤100000) :
  Calls Tryz.prog 168 #[.string s] w fun e w'=>(∃v,e=.returned v∧OS w' w.heap.size v (bF s.data.toList))∧Qi w w':=by
 have No:=Qf (qR s w (by omega));have Mq:=Qf (show bF s.data.toList=(ku 47 s.data.toList).filter qD from rfl);have hlen:(ku 47 s.data.toList).length≤100001:=by
  have h1:=(i' 47 s.data.toList).2;have h2:s.data.toList.length=s.size:=Array.length_toList;omega
 generalize bF s.data.toList=R at Mq⊢;generalize ku 47 s.data.toList=ls at No Mq hlen;go_enter Tryz.func168,Tryz.ntmps168;go_wp2_with fail;refine No.o.mono ?_;rintro e w1 ⟨⟨g,cap,rfl,hO⟩,av⟩;have HO:=Qf hO;have HB:=Qf av;have sD:=av.size;clear hO av;go_wp2_with fail
 go_loopw [3,5] (fun t3 t5 wr=>∃(k:Nat),k≤ls.length∧t5=.int .i64 k∧OS wr w1.heap.size t3 ((ls.take k).filter qD)∧Qi w1 wr) (fun _ t5 _=>ls.length-(intOf t5).toNat)
 case atStart=>exact⟨0,Nat.zero_le _,rfl,⟨rfl,.inl ⟨rfl,rfl⟩⟩,Below.refl _ _⟩
 case round=>
  obtain⟨k,hk,rfl,sn,hW⟩:=hrel;have oQ:=Qf sn;have HW:=Qf hW;by_cases hlt:k<ls.length
  ·obtain⟨g',hg',hgl,hcl⟩:=(HO.o.ry hW).at' k hlt;injection hg' with hg';injection hg' with e1;subst e1;have PH:=Qf (pH (p:=qD) ls k hlt);have iW:=Qf (rK (p:=qD) ls k hlt);have hfl:((ls.take k).filter qD).length≤1000000:=by
    have h1:=List.length_filter_le qD (ls.take k);have h2:(ls.take k).length≤ls.length:=by rw[List.length_take];omega
    omega
   obtain⟨g2,cap2,W,hrun,kA,cT⟩:=sn.app ls[k] (by omega) hW.size;have HX:=Qf (ag kA cT);have Nf:=Qf (bG (str ls[k]));rw[dP] at Nf;generalize ls[k]=x at hcl PH iW hrun HX Nf;generalize str x=p at hcl hrun Nf;clear sn hW kA cT hfl;by_cases h1:p.toList=[]
   ·have HN:=Qf (iW.o (by rw[←Nf.o,h1];rfl));clear hrun;go_wp2_with fail;go_roundw
    case measure=>simp[intOf];omega
    case rel=>exact⟨k+1,by omega,by go_num,by rw[HN.o];exact oQ.o,HW.o⟩
   ·by_cases h2:p.toList=[46]
    ·have HN:=Qf (iW.o (by rw[←Nf.o,h2];rfl));clear hrun;go_wp2_with fail;go_roundw
     case measure=>simp[intOf];omega
     case rel=>exact⟨k+1,by omega,by go_num,by rw[HN.o];exact oQ.o,HW.o⟩
    ·have HY:=Qf (PH.o (by rw[←Nf.o];unfold qD;simp[h1,h2]));have Df:p.toList.isEmpty=false:=by simpa using h1
     have MC:(p.toList==[46])=false:=by simpa using h2
     have HR:=Qf hrun;clear h1 h2 hrun;go_wp2_with (at_builtin;refine aL rfl rfl rfl rfl HR.o ?_);go_roundw
     case measure=>simp[intOf];omega
     case rel=>exact⟨k+1,by omega,by go_num,by rw[HY.o];exact HX.o.1,HW.o.trans HX.o.2⟩
  ·obtain rfl:k=ls.length:=by omega
   rw[List.take_length,←Mq.o] at oQ;clear sn hW;go_wp2_with fail;go_ret;exact⟨⟨_,rfl,oQ.o.low2 sD⟩,au HB.o HW.o⟩
end
section
open Go.RowKit
theorem DQ(b:Nat)(l:List UInt8)(w:World)(h:lT b l w) :
  Calls Tryz.prog 143 #[.pointer (some ⟨b,0,none⟩)] w fun e w'=>e=.returned (.int .i64 l.length)∧w'=w:=by
 refine(Tryz.Builder_Len_f b b (Lib.byteCells l) w h).mono ?_;rintro e w' ⟨rfl,rfl⟩;exact⟨by rw[gI],rfl⟩
theorem DP(x:List UInt8)(l:List (List UInt8)):gW (x::l)=gW l++(47::x):=by simp[gW]
section
variable{w w':World}{pw:Nat}{R:Rp}{S:Fs}
theorem Eo(h:bm w pw R S)(k:Int):∃a ea el ec b,aA w ea el ec a.ay∧a.ay=S.bw k∧(S.get k=some a∧b=true∨(S.get k=none∧a=cS∧b=false))∧
  ∀w1,Qi w w1→Calls Tryz.prog 69 #[.pointer (some ⟨R.pt,0,none⟩),.int .i64 k] w1 fun e w'=>e=.returned (.tuple #[.agg #[.int .i64 a.no,.int .i64 a.dev,.int .i64 a.kind,.int .i64 a.mode,.int .i64 a.uid,.int .i64 a.gid,.int .i64 a.mtime,.int .i64 a.ctime,.int .i64 a.ao,.int .i64 a.up,.string a.data,.slice ea el ec],.bool b])∧Qi w1 w':=by
 cases hg:S.get k with
 |none=>exact⟨cS,none,0,0,false,aA.nil w,by unfold Fs.bw;rw[hg];rfl,.inr ⟨rfl,rfl,rfl⟩,fun w1 hb=>fK (h.ak hb) hg⟩
 |some a=>
  obtain⟨ea,el,ec,he,hc⟩:=eV h hg;exact⟨a,ea,el,ec,true,he,by unfold Fs.bw;rw[hg],.inl ⟨rfl,rfl⟩,hc⟩
theorem JC{N:Nat}(hk:ax S N)(hp:Pl S){x:Int}(hu:S.aX x≠x){a:An}{b:Bool}(h:S.get x=some a∧b=true∨(S.get x=none∧a=cS∧b=false)) :
  (S.root a.dev≠x→S.child x=x)∧(S.root a.dev=x→∃(k:Nat) (hkl:k<S.ds.length),a.dev=(k:Int)+1∧S.child x=S.ds[k].aC):=by
 rcases h with⟨h,-⟩|⟨h,rfl,-⟩
 ·refine⟨fun hr=>AO h hr,fun hr=>?_⟩;have h1:x≠1:=by
   rintro rfl;exact hu (uj hk hp)
  obtain⟨BC,v,hv,hc⟩:=AP hk hp h hr h1;have lJ:=(hk.get h).1.dev.2;have hkl:(a.dev-1).toNat<S.ds.length:=by omega
  refine⟨(a.dev-1).toNat,hkl,by omega,?_⟩;rw[hc];unfold Fs.dev at hv;rw[if_pos (by omega),List.getElem?_eq_getElem hkl] at hv;injection hv with hv;rw[hv]
 ·refine⟨fun _=>AQ h,fun hr=>?_⟩;exfalso;have h0:S.root cS.dev=0:=by unfold Fs.root;rw[if_neg (fun h=>absurd h.1 (by decide))]
  rw[h0] at hr;rw[←hr,sh hk] at hu;exact hu rfl
theorem Dz{x:Int}{nm:ByteArray}{c:Int}(h:dy (S.bw x) c=some nm){a:An}{b:Bool}(hg:S.get x=some a∧b=true∨(S.get x=none∧a=cS∧b=false)):b=true:=by
 rcases hg with⟨-,h⟩|⟨hg,-⟩
 ·exact h
 ·unfold Fs.bw at h;rw[hg] at h
  cases h
theorem Hl{N:Nat}(hk:ax S N)(hp:Pl S){x c:Int}{nm:ByteArray}(hu:S.aX x≠x)(h:dy (S.bw (S.aX x)) c=some nm):(S.aX x).toNat<x.toNat:=by
 rcases si hk hp hu with h0|⟨h1,h2,-,-⟩
 ·rw[h0,oF hk] at h
  cases h
 ·omega
theorem qh(h:bm w pw R S){N:Nat}(hk:ax S N)(hp:Pl S)(hl:S.ns.length≤100000)(no:Int) :
  Calls Tryz.prog 98 #[.pointer (some ⟨pw,0,none⟩),.int .i64 no] w fun e w'=>e=.returned (qj (S.fP no))∧Qi w w':=by
 have G9:=Qf (iu h hk.d1);obtain⟨g,cap,hv,hle,xZ,hgl,hcd,-,-⟩:=h.kZ hk.d1;have BC:=hk.d1;have hd8:=hk.d8;have HA:=Qf (fun w1 (av:Qi w w1) x=>qp (h.ak av) hk x);have so:=Qf (fun w1 (av:Qi w w1) x=>fp (h.ak av) hk.d1 x);have HG:=Qf (fun w1 (av:Qi w w1) x=>Eo (h.ak av) x);have L5:=Qf (nI.start hp no);have hb:=h.aZ;rw[hv] at hb;have HB:=Qf hb;have HC:=Qf (fun k (hk:k<S.ds.length)=>(hcd k hk).c1);have HK:=Qf (ag hk hp);have HL:=Qf hl;obtain⟨m,hm⟩:∃m,S.ds.length=m:=⟨_,rfl⟩;have HM:=Qf hm;rw[hm] at HB hle BC hd8;have mixed:Tryz.prog.follows .mixedOrders=true:=by kernel_rfl
 have Dg:(0:Int)<(m:Int):=by omega
 clear h hk hp hv hb hcd hm hl;go_enter Tryz.func98,Tryz.ntmps98;go_wp2_with fail;refine G9.o.mono ?_;rintro e w1 ⟨rfl,rfl⟩;go_wp2_with fail;refine(HA.o w (Below.refl _ _) no).mono ?_;rintro e w1 ⟨rfl,av⟩;have dO:=Qf av;clear av;go_wp2_with fail
 go_loopw [1,6,7] (fun t1 t6 t7 wr=>∃(x:Int) (l:List (List UInt8)),t1=.int .i64 x∧t7=.int .i64 (S.aX x)∧OS wr w.heap.size t6 l∧nI S no x l∧Qi w wr) (fun t1 _ _ _=>(intOf t1).toNat)
 case atStart=>exact⟨no,[],rfl,rfl,OS.nil _ _,L5.o,dO.o⟩
 case round=>
  obtain⟨x,l,rfl,rfl,hO,hW,hbw⟩:=hrel;obtain⟨la,lc,rfl,hlc1,hlc2⟩:=hO.len;have HO:=Qf hO;have HW:=Qf hW;have sW:=Qf hbw;have hlen:l.length≤100000:=ae hW.mJ HL.o;obtain⟨bc,bf,bz⟩:=(HB.o.ak hbw).facts;clear hO hW;by_cases hx:S.aX x=x
  ·have px:(S.aX x != x)=false:=by simpa using hx
   have HX:=Qf hx;have HTop:=Qf (fun(h1:x=1)=>(show nI S no 1 l from h1▸HW.o).top HK.o.1 HK.o.2);have L':=Qf (fun(h1:x≠1)=>HW.o.other HK.o.1 HK.o.2 HX.o h1);have HSm:=Qf HW.o.small;generalize S.aX x=ab at px⊢;obtain⟨w0,hw0⟩:∃w0,w0=wr:=⟨_,rfl⟩;subst hw0;have hK0:=lT.of (sX.new w0);have aI:=(Qj w0).alloc (aa _) (.cells #[.pointer none,.slice none 0 0] 117);clear hx hbw bc bf bz;go_upto_region 17 with fail;generalize w0.alloc _=X at hK0 aI⊢;have HK0:=Qf hK0;have aW:=Qf aI;clear hK0 aI;go_wp2_with fail
   go_loopw [15] (fun t15 w3=>∃i:Int,-1≤i∧i<l.length∧t15=.int .i64 i∧lT w0.heap.size (gW (l.drop (i+1).toNat)) w3∧Qi w0 w3) (fun t15 _=>(intOf t15+1).toNat)
   case atStart=>exact⟨(l.length:Int)-1,by omega,by omega,by go_num,by rw[show((l.length:Int)-1+1).toNat=l.length by omega,List.drop_length];exact HK0.o,aW.o⟩
   case round=>
    obtain⟨i,IY,zd,rfl,tT,bK⟩:=hrel;have fG:=Qf tT;have Hb3:=Qf bK;clear tT bK;by_cases h0:0≤i
    ·obtain⟨j,rfl⟩:=Int.eq_ofNat_of_zero_le h0;have hjl:j<l.length:=by omega
     have hge:(0:Int)≤(j:Int):=h0;have G0:OS wr w.heap.size (.slice la l.length lc) l:=dD HO.o Hb3.o (aa _);obtain⟨g3,rfl,hg3,hcl⟩:=G0.at' j hjl;have hsm:=HSm.o l[j] (List.getElem_mem hjl);have HQ:=Qf (show gW (l.drop ((j:Int)-1+1).toNat)=gW (l.drop ((j:Int)+1).toNat)++(47::l[j]) by
      rw[show((j:Int)-1+1).toNat=j by omega,show((j:Int)+1).toNat=j+1 by omega,List.drop_eq_getElem_cons hjl,DP])
     have OF:(gW (l.drop ((j:Int)+1).toNat)).length≤1000000000:=by
      have h1:=Gq (l:=l.drop ((j:Int)+1).toNat) (fun x hx=>HSm.o x (List.mem_of_mem_drop hx));have h2:(l.drop ((j:Int)+1).toNat).length≤l.length:=by rw[List.length_drop];omega
      omega
     have hqs:=cJ l[j];have ji:=Qf (show(ByteArray.mk #[47]++str l[j]).data.toList=47::l[j] by
      rw[show ByteArray.mk #[47]=str [47] from rfl,jX,dP];rfl)
     have hss:(ByteArray.mk #[47]++str l[j]).size≤1000000000:=by
      rw[ByteArray.size_append];show 1+(str l[j]).size≤_;omega
     have Nc:=Qf (A9 w0.heap.size (gW (l.drop ((j:Int)+1).toNat)) (ByteArray.mk #[47]++str l[j]) wr fG.o OF hss);rw[ji.o,←HQ.o] at Nc;have sm:¬9223372036854775807<1+(str l[j]).size:=by omega
     generalize str l[j]=q at hcl Nc sm;clear h0 G0 hsm HQ OF hqs ji hss;go_wp2_with fail;refine Nc.o.mono ?_;rintro e w5 ⟨rfl,pG,bU,-⟩;have l8:=Qf pG;have Hb5:=Qf (Hb3.o.trans bU);clear pG bU;go_wp2_with fail;go_roundw
     case measure=>simp[intOf]
     case rel=>exact⟨(j:Int)-1,by omega,by omega,by go_num,l8.o,Hb5.o⟩
    ·obtain rfl:i=-1:=by omega
     rw[show((-1:Int)+1).toNat=0 from rfl,List.drop_zero] at fG;have Hbb:=Qf (sW.o.trans (Hb3.o.mono sW.o.size));clear h0 IY zd;by_cases h1:x=1
     ·have p1:(x != 1)=false:=by simpa using h1
      have nX:=Qf (HTop.o h1);have yQ:=Qf (DQ w0.heap.size (gW l) wr fG.o);clear h1;by_cases eR:l=[]
      ·rw[if_pos eR] at nX;have hz:(((gW l).length:Int)==0)=true:=by rw[eR];rfl
       generalize ((gW l).length:Int)=ln at hz yQ;clear eR;go_wp2_with fail;refine yQ.o.mono ?_;rintro e w6 ⟨rfl,rfl⟩;go_wp2_with fail;go_ret2;rw[nX.o];exact⟨rfl,Hbb.o⟩
      ·rw[if_neg eR] at nX;have hne:gW l≠[]:=fun h=>eR ((yC l).1 h);have hz:(((gW l).length:Int)==0)=false:=by
        simp only[beq_eq_false_iff_ne,ne_eq];intro h;exact hne (List.eq_nil_of_length_eq_zero (by omega))
       have Ku:=Qf (BM w0.heap.size (gW l) wr fG.o hne);generalize ((gW l).length:Int)=ln at hz yQ;generalize str (gW l)=z at Ku nX;clear eR hne;go_wp2_with fail;refine yQ.o.mono ?_;rintro e w6 ⟨rfl,rfl⟩;go_wp2_with fail;refine Ku.o.mono ?_;rintro e w7 ⟨rfl,jJ⟩;have Hb7:=Qf (Hbb.o.trans (jJ.mono sW.o.size));clear jJ;go_wp2_with fail;go_ret2;rw[nX.o];exact⟨rfl,Hb7.o⟩
     ·have p1:(x != 1)=true:=by simpa using h1
      have nX:=Qf (L'.o h1);clear h1;go_wp2_with fail;go_ret2;rw[nX.o];exact⟨rfl,Hbb.o⟩
  ·have px:(S.aX x != x)=true:=by simpa using hx
   have HX:=Qf hx;obtain⟨up,hup⟩:∃y,S.aX x=y:=⟨_,rfl⟩;have um:=Qf hup;rw[hup] at px⊢;obtain⟨a,ea,el,ec,ab,-,-,hga,hcg⟩:=HG.o wr hbw x;have P7:=Qf (hcg wr (Below.refl _ _));have uq:=Qf (JC HK.o.1 HK.o.2 hx hga);clear hcg hga hx hup;go_wp2_with fail;refine P7.o.mono ?_;rintro e w2 ⟨rfl,aS⟩;have aI:=aq (au sW.o aS) (.cells #[.int .i64 a.no,.int .i64 a.dev,.int .i64 a.kind,.int .i64 a.mode,.int .i64 a.uid,.int .i64 a.gid,.int .i64 a.mtime,.int .i64 a.ctime,.int .i64 a.ao,.int .i64 a.up,.string a.data,.slice ea el ec] 149);have bK:=aq aS (.cells #[.int .i64 a.no,.int .i64 a.dev,.int .i64 a.kind,.int .i64 a.mode,.int .i64 a.uid,.int .i64 a.gid,.int .i64 a.mtime,.int .i64 a.ctime,.int .i64 a.ao,.int .i64 a.up,.string a.data,.slice ea el ec] 149);have hX:=aw.new w2 #[.int .i64 a.no,.int .i64 a.dev,.int .i64 a.kind,.int .i64 a.mode,.int .i64 a.uid,.int .i64 a.gid,.int .i64 a.mtime,.int .i64 a.ctime,.int .i64 a.ao,.int .i64 a.up,.string a.data,.slice ea el ec] 149;clear aS P7 bc bf bz hbw;go_upto_region 8 with fail;generalize w2.alloc _=X at aI hX bK⊢;have aW:=Qf aI;have G8:=Qf (HO.o.ry bK);obtain⟨xc,xf,xz⟩:=hX.facts;obtain⟨bc,bf,bz⟩:=(HB.o.ak aI).facts;have HRx:=Qf (so.o X aI a.dev);clear bK hX aI HO sW;obtain⟨ch,hch⟩:∃y,S.child x=y:=⟨_,rfl⟩;have HChe:=Qf hch;rw[hch] at uq;clear hch
   go_cut [41] from 21 to 78 (fun t41 wx=>t41=.bool (S.root a.dev==x)∧wx=X)
   case first=>
    have hgoal:∀z:Bool,(Value.bool z=Value.bool z∧X=X):=fun _=>⟨rfl,rfl⟩;go_wp2_with fail;refine HRx.o.mono ?_;rintro e w3 ⟨rfl,rfl⟩;go_wp2_with fail;go_meet;exact⟨rfl,rfl⟩
   case rest=>
   obtain⟨rfl,rfl⟩:=hcut
   go_step
   go_cut [1] from 21 to 78 (fun t1 wx=>t1=.int .i64 ch∧Qi wc wx)
   case first=>
    by_cases h3:S.root a.dev=x
    ·have q3:(S.root a.dev==x)=true:=by simpa using h3
     obtain⟨j,hjl,hj,hco⟩:=uq.o.2 h3;have cc:=(aW.o.cell (p:=⟨g,j*6+1,none⟩) hgl).trans (HC.o j hjl);have IX:(j:Int)<(m:Int):=by have:=HM.o;omega
     have nX:=Qf hco;generalize S.ds[j].aC=ov at cc nX;have Ow:g<wc.heap.size:=Nat.lt_of_lt_of_le hgl aW.o.size;have hwr1:IntKind.i64.wrap ((j:Int)+1-1)=(j:Int):=by simp[IntKind.wrap,IntKind.bits,IntKind.signed];omega
     have hwr2:IntKind.i64.wrap (j:Int)=(j:Int):=by simp[IntKind.wrap,IntKind.bits,IntKind.signed];omega
     have MG:(0:Int)≤(j:Int)∧((j:Int)).toNat=j:=by omega
     obtain⟨hk1',hk3'⟩:=MG;generalize (S.root a.dev==x)=dd at q3⊢;subst q3;rw[hj] at xc;clear h3 hjl hco hj;go_wp2_with fail
     go_quiet (fail)
     go_wp2_with fail;go_meet;exact⟨by rw[nX.o],below_drewN (Below.refl _ _) _⟩
    ·have q3:(S.root a.dev==x)=false:=by simpa using h3
     have nX:=Qf (uq.o.1 h3);generalize (S.root a.dev==x)=dd at q3⊢;subst q3;clear h3;go_wp2_with fail;go_meet;exact⟨by rw[nX.o],Below.refl _ _⟩
   case rest=>
   obtain⟨rfl,hbc⟩:=hcut;have HBc:=Qf (au aW.o hbc);have HOc:=Qf (G8.o.ry hbc);obtain⟨a2,fa,fl,fc,b2,hents,hee,Oy,hcg⟩:=HG.o wc HBc.o up;have P7:=Qf (hcg wc (Below.refl _ _));have iQ:=Qf (fun hn=>HW.o.fail HK.o.1 HK.o.2 HX.o hn);have GH:=Qf (fun s hn=>HW.o.more HK.o.1 HK.o.2 HX.o (s:=s) hn);have GB:=Qf (fun nm hn=>Dz (S:=S) (x:=up) (nm:=nm) (c:=ch) hn Oy);have GI:=Qf (fun s hn=>Hl HK.o.1 HK.o.2 (c:=ch) (nm:=s) HX.o hn);rw[um.o,←hee] at GI;rw[HChe.o,um.o,←hee] at iQ GH;rw[←hee] at GB;generalize a2.ay=es at hents iQ GH GB GI;have Mo:=Qf hents;clear hbc hcg hents hee Oy xc xf xz bc bf bz aW G8 HRx;obtain⟨bc,bf,bz⟩:=(HB.o.ak HBc.o).facts;go_wp2_with fail;refine P7.o.mono ?_;rintro e w4 ⟨rfl,cZ⟩;have dX:=aq (au HBc.o cZ) (.cells #[.int .i64 a2.no,.int .i64 a2.dev,.int .i64 a2.kind,.int .i64 a2.mode,.int .i64 a2.uid,.int .i64 a2.gid,.int .i64 a2.mtime,.int .i64 a2.ctime,.int .i64 a2.ao,.int .i64 a2.up,.string a2.data,.slice fa fl fc] 149);have bU:=aq cZ (.cells #[.int .i64 a2.no,.int .i64 a2.dev,.int .i64 a2.kind,.int .i64 a2.mode,.int .i64 a2.uid,.int .i64 a2.gid,.int .i64 a2.mtime,.int .i64 a2.ctime,.int .i64 a2.ao,.int .i64 a2.up,.string a2.data,.slice fa fl fc] 149);have hY:=aw.new w4 #[.int .i64 a2.no,.int .i64 a2.dev,.int .i64 a2.kind,.int .i64 a2.mode,.int .i64 a2.uid,.int .i64 a2.gid,.int .i64 a2.mtime,.int .i64 a2.ctime,.int .i64 a2.ao,.int .i64 a2.up,.string a2.data,.slice fa fl fc] 149;clear cZ P7;go_upto_region 11 with fail;generalize w4.alloc _=Y at dX hY bU⊢;have lS:=Qf dX;have HOY:=Qf (HOc.o.ry bU);obtain⟨yc,yf,yz⟩:=hY.facts;have pP:=Qf (DA es fa fl fc ch Y (Mo.o.ak bU));unfold qj at pP;clear bU hY dX HBc HOc Mo
   cases ho:dy es ch with
   |none=>
    rw[ho] at pP;have nX:=Qf (show S.fP no=none from iQ.o ho);simp only[Option.getD_none,Option.isSome_none] at pP;clear ho
    cases b2 with
    |false=>
     go_wp2_with fail;refine pP.o.mono ?_;rintro e w6 ⟨rfl,fo⟩;have jx:=Qf (au lS.o fo);clear fo yc yf yz;go_wp2_with fail;go_ret2;rw[nX.o];exact⟨rfl,jx.o⟩
    |true=>
     go_wp2_with fail;refine pP.o.mono ?_;rintro e w6 ⟨rfl,fo⟩;have jx:=Qf (au lS.o fo);clear fo yc yf yz;go_wp2_with fail;go_ret2;rw[nX.o];exact⟨rfl,jx.o⟩
   |some nm=>
    rw[ho] at pP;simp only[Option.getD_some,Option.isSome_some] at pP;obtain rfl:b2=true:=GB.o nm ho;have HMr:=Qf (GH.o nm ho);have Nt:=Qf (GI.o nm ho);clear ho;go_wp2_with fail;refine pP.o.mono ?_;rintro e w6 ⟨rfl,fo⟩;have Jp:=au lS.o fo;obtain⟨g2,cap2,W,hrun,hO7,hB7⟩:=(HOY.o.ry fo).app nm.data.toList (by omega) Jp.size;rw[qx] at hrun;have HR:=Qf hrun;have JT:=Qf hO7;have uu:=Qf (Jp.trans hB7);have HAu:=Qf (HA.o W uu.o up);clear fo yc yf yz hrun hO7 hB7 Jp;go_wp2_with (at_builtin;refine aL rfl rfl rfl rfl HR.o ?_);refine HAu.o.mono ?_;rintro e w8 ⟨rfl,mQ⟩;have HB8:=Qf (au uu.o mQ);have HO8:=Qf (JT.o.ry mQ);clear mQ;go_wp2_with fail;go_roundw
    case measure=>exact Nt.o
    case rel=>exact⟨up,l++[nm.data.toList],rfl,rfl,HO8.o,HMr.o.1,HB8.o⟩
end
end
end Go.Proofs.YtabbjaomlmnnhaaGreat
