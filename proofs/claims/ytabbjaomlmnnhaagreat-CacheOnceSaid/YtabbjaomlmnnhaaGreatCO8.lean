import Derived.Deep.CutBlock
import Derived.Deep.DeepCutAuto
import Derived.RegionTactic
import Derived.BigRegion
import Derived.Deep.QuietTactic
import Derived.BigQuiet
import Derived.WalkSmall
import Derived.Shelf.Strings.BuilderK
import Derived.Lib.Join
import Derived.StillTailTactics
import Derived.Test.YtabbjaomlmnnhaaGreatCO7
import Derived.Test.YtabbjaomlmnnhaaGreatCO5
import Derived.Test.YtabbjaomlmnnhaaGreatCO3
import Derived.Test.YtabbjaomlmnnhaaGreatCO2
import Derived.Test.YtabbjaomlmnnhaaGreatCO1
import Derived.Test.YtabbjaomlmnnhaaGreatCO6
set_option linter.unusedVariables false
set_option linter.unusedSimpArgs false
set_option maxRecDepth 100000
set_option maxHeartbeats 16000000
namespace Go.Proofs.YtabbjaomlmnnhaaGreat
open Go.Value renaming int→UE,string→UF,slice→UG,pointer→UH,agg→UJ,tuple→UK
open Go.IntKind renaming i64→UL
section
open Go.RowKit
theorem FN:(Tryz.prog.info? 149).map (fun i=>(i.zero,i.size,i.bytes))=some (some (UJ #[UE UL 0,UE UL 0,UE UL 0,UE UL 0,UE UL 0,UE UL 0,UE UL 0,UE UL 0,UE UL 0,UE UL 0,UF ByteArray.empty,UG none 0 0]),12,120):=by kernel_rfl
theorem Fp:(Tryz.prog.info? 266).map (fun i=>(i.zero,i.size,i.bytes))=some (some (UJ #[UE UL 0,UE UL 0,UE UL 0,UE UL 0,UE UL 0,UE UL 0]),6,48):=by kernel_rfl
section
variable{w w':World}{pf:Nat}{R:Rf}{S:Fs}
theorem aW.aside(h:aW w pf R S){B:Nat}{vs:Array Value}{T:TypeId}(hB:ax w B vs T)(hF:¬R.F pf B)(hT:T≠98)(i:Nat)(v:Value):aW (w.setCell ⟨B,i,none⟩ v) pf R S:=by
 have hm:Mod (fun k=>k=B) w (w.setCell ⟨B,i,none⟩ v):=(Mod.refl (fun k=>k=B) w).setCell (a:=⟨B,i,none⟩) (.inl rfl) v;refine h.gw (fun k hk=>hm.block k (h.lt hk) (fun e=>hF (e▸hk))) (fun b cur hc=>hm.block b (Array.getElem?_eq_some_iff.1 hc).1 (fun e=>?_)) hm.size;subst e;unfold ax at hB;rw[hB] at hc;injection hc with hc;injection hc with _ hc;exact hT hc
theorem aW.Lw(h:aW w pf R S)(v:Int):aW (w.setCell ⟨pf,2,none⟩ (UE UL v)) pf R {S with last:=v}∧Mod (R.F pf) w (w.setCell ⟨pf,2,none⟩ (UE UL v)):=by
 have hm:Mod (fun k=>k=pf) w (w.setCell ⟨pf,2,none⟩ (UE UL v)):=(Mod.refl (fun k=>k=pf) w).setCell (a:=⟨pf,2,none⟩) (.inl rfl) _;have hM:Mod (R.F pf) w (w.setCell ⟨pf,2,none⟩ (UE UL v)):=hm.mono (fun k hk=>.inl hk);refine⟨⟨h.bD.set 2 _,bY h.ti hm (fun k hk e=>?_),bY h.fJ hm (fun k hk e=>?_),h.ns,fun x hx=>(h.au x hx).rf h (aS.dH hM)⟩,hM⟩
 ·obtain⟨-,hc⟩:=aH h.ti e;exact dJ hc h.bD (by decide) hk.symm
 ·obtain⟨-,hc⟩:=aH h.fJ e;exact dJ hc h.bD (by decide) hk.symm
theorem aW.appN(h:aW w pf R S)(hl:R.G.length≤1000000)(ad:Addr)(y:Gn)(had:∀j u,(Gn.cs y)[j]?=some u→w.cell? (ad.add j)=some u)(he:aA w y.ea y.el y.ec y.a.au) :
  ∃g cap W,(Builtin.append_ #[52,52] 52 #[R.nv,.slice (some ad) 1 1]).run Tryz.prog w=.ok (.slice (some ⟨g,0,none⟩) (R.G.length+1) cap) W∧
   aW (W.setCell ⟨pf,0,none⟩ (.slice (some ⟨g,0,none⟩) (R.G.length+1) cap)) pf {R with nv:=.slice (some ⟨g,0,none⟩) (R.G.length+1) cap,G:=R.G++[y]} {S with ns:=S.ns++[y.a]}∧
   aS (R.F pf) (Rf.F {R with nv:=.slice (some ⟨g,0,none⟩) (R.G.length+1) cap,G:=R.G++[y]} pf) w (W.setCell ⟨pf,0,none⟩ (.slice (some ⟨g,0,none⟩) (R.G.length+1) cap))∧
   ax W pf #[R.nv,R.dv,UE UL S.last,UE UL R.now,R.jc,R.pl,R.dd] 55∧Mod (fun k=>R.nv.ownBlock=some k) w W:=by
 obtain⟨i0,hi,kp,fj,fo⟩:=info_parts FN;obtain⟨g,cap,W,h1,h2,h3,h4⟩:=eX (52) Tryz.underlying52 hi kp fj fo rfl (by omega) h.ti ad 1 1 (Gn.cs y) rfl had (by intro u hu;simp[Gn.cs] at hu;rcases hu with rfl|rfl|rfl|rfl|rfl|rfl|rfl|rfl|rfl|rfl|rfl|rfl<;>rfl) (by omega) (by unfold maxLen;omega) (by omega) (Nat.zero_le _);have hM:Mod (R.F pf) w W:=h3.mono (fun k hk=>.inr (.inl hk));have mZ:ax W pf #[R.nv,R.dv,UE UL S.last,UE UL R.now,R.jc,R.pl,R.dd] 55:=h.bD.mod h3 (fun hk=>by
  obtain⟨-,hc⟩:=aH h.ti hk;exact dJ hc h.bD (by decide) rfl)
 have hpg:pf≠g:=by
  rintro rfl;rcases h4 with h4|h4
  ·obtain⟨-,hc⟩:=aH h.ti h4;exact dJ hc h.bD (by decide) rfl
  ·have:=h.bD.lt;omega
 have ib:aS (R.F pf) (R.F pf) w (W.setCell ⟨pf,0,none⟩ (.slice (some ⟨g,0,none⟩) (R.G.length+1) cap)):=aS.dH (hM.setCell (.inl (.inl rfl)) _);have hmp:Mod (fun k=>k=pf) W (W.setCell ⟨pf,0,none⟩ (.slice (some ⟨g,0,none⟩) (R.G.length+1) cap)):=(Mod.refl (fun k=>k=pf) W).setCell (a:=⟨pf,0,none⟩) (.inl rfl) _;refine⟨g,cap,W,h1,⟨mZ.set 0 _,?_,?_,by rw[h.ns,List.map_append];rfl,fun x hx=>?_⟩,⟨ib.mod,fun k hk=>?_⟩,mZ,h3⟩
 ·show World.ownsRow _ 0 149 12 _ (R.G++[y]).length ((R.G++[y]).flatMap Gn.cs);rw[List.length_append,List.length_singleton,List.flatMap_append,List.flatMap_singleton];refine bY h2 hmp (fun k hk e=>?_);subst hk;simp only[Value.ownBlock,Option.some.injEq] at e;exact hpg e.symm
 ·refine bY (bY h.fJ h3 (fun k hk e=>?_)) hmp (fun k hk e=>?_)
  ·obtain⟨-,hc⟩:=aH h.ti hk;obtain⟨-,cur,fE⟩:=aH h.fJ e;exact dJ hc (show ax w k cur 266 from fE) (by decide) rfl
  ·obtain⟨-,hc⟩:=aH h.fJ e;exact dJ hc h.bD (by decide) hk.symm
 ·rcases List.mem_append.1 hx with hx|hx
  ·exact(h.au x hx).rf h ib
  ·rw[List.mem_singleton] at hx;subst hx;exact he.rf h ib
 ·rcases hk with hk|hk|hk
  ·exact .inl (.inl hk)
  ·simp only[Value.ownBlock,Option.some.injEq] at hk;subst hk;rcases h4 with h4|h4
   ·exact .inl (.inr (.inl h4))
   ·exact .inr (by omega)
  ·exact .inl (.inr (.inr hk))
theorem Ac(h:aW w pf R S){a:An}{ea:Option Addr}{el ec:Nat}(he:aA w ea el ec a.au)(fk:0≤S.last)(mT:S.last≤1000000)(hgl:R.G.length≤1000000) :
  Calls Tryz.prog 166 #[UH (some ⟨pf,0,none⟩),a.v ea el ec] w fun e w'=>e=.returned (UE UL (S.last+1))∧∃R',aW w' pf R' (S.add a)∧aS (R.F pf) (R'.F pf) w w'∧Rf.cY R R'∧R'.dv=R.dv:=by
 obtain⟨h1,hM1⟩:=h.Lw (S.last+1);have av:=(Below.refl _ (w.setCell ⟨pf,2,none⟩ (UE UL (S.last+1)))).alloc (aa _) (.cells #[UE UL (S.last+1),UE UL a.dev,UE UL a.kind,UE UL a.mode,UE UL a.uid,UE UL a.gid,UE UL a.mtime,UE UL a.ctime,UE UL a.ak,UE UL a.up,UF a.data,UG ea el ec] 149);have h2:=h1.an av;have uV:=ax.new (w.setCell ⟨pf,2,none⟩ (UE UL (S.last+1))) #[UE UL (S.last+1),UE UL a.dev,UE UL a.kind,UE UL a.mode,UE UL a.uid,UE UL a.gid,UE UL a.mtime,UE UL a.ctime,UE UL a.ak,UE UL a.up,UF a.data,UG ea el ec] 149;rw[World.size_setCell] at uV;have hne:pf≠w.heap.size:=fun e=>by have:=h.bD.lt;omega
 have hst:=hM1.trans (Mod.aq av);have lx:=he.rf h (aS.dH hst);have hF:¬R.F pf w.heap.size:=fun hk=>absurd (h.lt hk) (by omega);have hsa:S.add a={S with ns:=S.ns++[{a with no:=S.last+1}],last:=S.last+1}:=rfl;rw[hsa];obtain⟨pc,pf1,pz⟩:=h.bD.facts;obtain⟨na,nc,hnv,hnc1,hnc2⟩:=h.Jb;have mixed:Tryz.prog.follows .mixedOrders=true:=by kernel_rfl
 have DC:=Ux h2;have vl:=Ux uV;have K5:=Ux hst;have bS:=Ux lx;have SH:=hgl;unfold An.v;clear he h1 hM1 av h2 uV hst lx hsa;have Dd:=ax.new w #[UE UL a.no,UE UL a.dev,UE UL a.kind,UE UL a.mode,UE UL a.uid,UE UL a.gid,UE UL a.mtime,UE UL a.ctime,UE UL a.ak,UE UL a.up,UF a.data,UG ea el ec] 149;obtain⟨qc,qf,qz⟩:=Dd.facts;clear Dd h;go_enter Tryz.func166,Tryz.ntmps166;go_upto_region 3 with fail;generalize World.alloc _ _=X at DC vl K5 bS⊢;clear pc pf1 pz qc qf qz;have hXz:=K5.o.size;have cl:UA X (X.alloc (.cells #[UE UL (S.last+1),UE UL a.dev,UE UL a.kind,UE UL a.mode,UE UL a.uid,UE UL a.gid,UE UL a.mtime,UE UL a.ctime,UE UL a.ak,UE UL a.up,UF a.data,UG ea el ec] 149)).drew:=((Below.refl _ X).alloc (aa _) _).drew;obtain⟨g,cap,Y,hrun,KX,Mw,eT,QS⟩:=(DC.o.an cl).appN hgl ⟨X.heap.size,0,none⟩ ⟨{a with no:=S.last+1},ea,el,ec,0⟩ (World.news_of_block ((ax.new X #[UE UL (S.last+1),UE UL a.dev,UE UL a.kind,UE UL a.mode,UE UL a.uid,UE UL a.gid,UE UL a.mtime,UE UL a.ctime,UE UL a.ak,UE UL a.up,UF a.data,UG ea el ec] 149).drew)) (bS.o.an cl);have uV:=vl.o;obtain⟨xc,xf,xz⟩:=DC.o.bD.facts;obtain⟨yc,yf,yz⟩:=eT.facts;obtain⟨qc,qf,qz⟩:=uV.facts;have Sj:ax Y w.heap.size #[UE UL (S.last+1),UE UL a.dev,UE UL a.kind,UE UL a.mode,UE UL a.uid,UE UL a.gid,UE UL a.mtime,UE UL a.ctime,UE UL a.ak,UE UL a.up,UF a.data,UG ea el ec] 149:=(uV.an cl).mod QS (fun hk=>hF (.inr (.inl hk)));obtain⟨zc,zf,zz⟩:=Sj.facts;have HWY:=Ux KX;have HSY:=Ux (((aS.dH K5.o).trans (aS.aq cl)).trans Mw);rw[hnv] at xc yc hrun;clear KX Mw QS eT uV Sj;have vk:=Ux hrun;clear hrun
 go_cut [] (fun wx=>wx=Y.setCell ⟨pf,0,none⟩ (.slice (some ⟨g,0,none⟩) (R.G.length+1) cap))
 case first=>
  have hrun:=vk.o
  go_region_law_o (refine kZ rfl rfl rfl rfl hrun ?_)
  all_goals
   go_wp2_with fail;go_meet;rfl
 case rest=>
  subst hcut;clear xc xf xz yc yf yz qc qf qz;have hne2:¬w.heap.size=pf:=fun e=>hne e.symm;go_wp2_with fail;go_ret;exact⟨rfl,_,HWY.o,HSY.o,⟨rfl,rfl,rfl,rfl⟩,rfl⟩
end
end
section
open Go.RowKit
section
variable{w w':World}{pf:Nat}{R:Rf}{S:Fs}
theorem aW.appD(h:aW w pf R S)(hl:S.ds.length≤1000)(ad:Addr)(y:Dv)(had:∀j u,(Dv.cs y)[j]?=some u→w.cell? (ad.add j)=some u) :
  ∃g cap W,(Builtin.append_ #[53,53] 53 #[R.dv,.slice (some ad) 1 1]).run Tryz.prog w=.ok (.slice (some ⟨g,0,none⟩) (S.ds.length+1) cap) W∧
   aW (W.setCell ⟨pf,1,none⟩ (.slice (some ⟨g,0,none⟩) (S.ds.length+1) cap)) pf {R with dv:=.slice (some ⟨g,0,none⟩) (S.ds.length+1) cap} {S with ds:=S.ds++[y]}∧
   aS (R.F pf) (Rf.F {R with dv:=.slice (some ⟨g,0,none⟩) (S.ds.length+1) cap} pf) w (W.setCell ⟨pf,1,none⟩ (.slice (some ⟨g,0,none⟩) (S.ds.length+1) cap))∧
   ax W pf #[R.nv,R.dv,UE UL S.last,UE UL R.now,R.jc,R.pl,R.dd] 55∧Mod (fun k=>R.dv.ownBlock=some k) w W:=by
 obtain⟨i0,hi,kp,fj,fo⟩:=info_parts Fp;obtain⟨g,cap,W,h1,h2,h3,h4⟩:=eX (53) Tryz.underlying53 hi kp fj fo rfl (by omega) h.fJ ad 1 1 (Dv.cs y) rfl had (by intro u hu;simp[Dv.cs] at hu;rcases hu with rfl|rfl|rfl|rfl|rfl|rfl<;>rfl) (by omega) (by unfold maxLen;omega) (by omega) (Nat.zero_le _);have hM:Mod (R.F pf) w W:=h3.mono (fun k hk=>.inr (.inr hk));have mZ:ax W pf #[R.nv,R.dv,UE UL S.last,UE UL R.now,R.jc,R.pl,R.dd] 55:=h.bD.mod h3 (fun hk=>by
  obtain⟨-,hc⟩:=aH h.fJ hk;exact dJ hc h.bD (by decide) rfl)
 have hpg:pf≠g:=by
  rintro rfl;rcases h4 with h4|h4
  ·obtain⟨-,hc⟩:=aH h.fJ h4;exact dJ hc h.bD (by decide) rfl
  ·have:=h.bD.lt;omega
 have ib:aS (R.F pf) (R.F pf) w (W.setCell ⟨pf,1,none⟩ (.slice (some ⟨g,0,none⟩) (S.ds.length+1) cap)):=aS.dH (hM.setCell (.inl (.inl rfl)) _);have hmp:Mod (fun k=>k=pf) W (W.setCell ⟨pf,1,none⟩ (.slice (some ⟨g,0,none⟩) (S.ds.length+1) cap)):=(Mod.refl (fun k=>k=pf) W).setCell (a:=⟨pf,1,none⟩) (.inl rfl) _;refine⟨g,cap,W,h1,⟨mZ.set 1 _,?_,?_,h.ns,fun x hx=>(h.au x hx).rf h ib⟩,⟨ib.mod,fun k hk=>?_⟩,mZ,h3⟩
 ·refine bY (bY h.ti h3 (fun k hk e=>?_)) hmp (fun k hk e=>?_)
  ·obtain⟨-,hc⟩:=aH h.fJ hk;obtain⟨-,cur,fE⟩:=aH h.ti e;exact dJ hc (show ax w k cur 149 from fE) (by decide) rfl
  ·obtain⟨-,hc⟩:=aH h.ti e;exact dJ hc h.bD (by decide) hk.symm
 ·show World.ownsRow _ 0 266 6 _ (S.ds++[y]).length ((S.ds++[y]).flatMap Dv.cs);rw[List.length_append,List.length_singleton,List.flatMap_append,List.flatMap_singleton];refine bY h2 hmp (fun k hk e=>?_);subst hk;simp only[Value.ownBlock,Option.some.injEq] at e;exact hpg e.symm
 ·rcases hk with hk|hk|hk
  ·exact .inl (.inl hk)
  ·exact .inl (.inr (.inl hk))
  ·simp only[Value.ownBlock,Option.some.injEq] at hk;subst hk;rcases h4 with h4|h4
   ·exact .inl (.inr (.inr h4))
   ·exact .inr (by omega)
theorem mK(h:aW w pf R S)(d:Int) :
  Calls Tryz.prog 175 #[UH (some ⟨pf,0,none⟩),UE UL d] w fun e w'=>e=.returned (UE UL (S.root d))∧w'=w:=by
 obtain⟨da,dc,hdv,Jw,Ps⟩:=h.Ef;obtain⟨pc,-,pz⟩:=h.bD.facts;by_cases h1:1≤d
 ·by_cases h2:d≤S.ds.length
  ·obtain⟨k,rfl⟩:∃k:Nat,d=(k:Int)+1:=⟨(d-1).toNat,by omega⟩;have hk:k<S.ds.length:=by omega
   have hr:S.root ((k:Int)+1)=S.ds[k].root:=by
    unfold Fs.root;rw[if_pos ⟨h1,h2⟩,show((k:Int)+1-1).toNat=k by omega,List.getElem?_eq_getElem hk]
   rw[hr];obtain⟨g,cap,hdv,hle,zd,hg,hc,-,-⟩:=h.lS (by omega);rw[hdv] at pc;have hcc:=(hc _ hk).c0;clear hc hr h;generalize S.ds[k]=v at hcc⊢;generalize S.ds.length=n at pc hle h2 hk;go_enter Tryz.func175,Tryz.ntmps175
   go_wp2
   go_ret;exact⟨rfl,rfl⟩
  ·rw[mL (by omega)];have kR:(S.ds.length:Int)<d:=by omega
   rw[hdv] at pc;clear h;generalize S.ds.length=n at pc h2 kR;go_enter Tryz.func175,Tryz.ntmps175
   go_wp2
   go_ret;exact⟨rfl,rfl⟩
 ·rw[mL (by omega)];have o8:d<1:=by omega
  clear h;go_enter Tryz.func175,Tryz.ntmps175
  go_wp2
  go_ret;exact⟨rfl,rfl⟩
theorem vL(h:aW w pf R S)(no:Int) :
  Calls Tryz.prog 172 #[UH (some ⟨pf,0,none⟩),UE UL no] w fun e w'=>e=.returned (UE UL (S.aB no))∧w'=w:=by
 have HW:=Ux h;obtain⟨da,dc,hdv,Jw,Ps⟩:=h.Ef;have ka:=Ux hdv;obtain⟨pc,-,pz⟩:=h.bD.facts;rw[hdv] at pc;have qC:=Ux (fun h0=>DW S no h0);have pM:=Ux (vW S no);have Es:=Ux (show¬0<no→S.aB no=no from fun h0=>by unfold Fs.aB;rw[if_neg h0]);obtain⟨n,hn⟩:∃n,S.ds.length=n:=⟨_,rfl⟩;have K9:=Ux hn;rw[hn] at pc Jw;generalize S.aB no=out at qC pM Es⊢;clear h hdv hn;go_enter Tryz.func172,Tryz.ntmps172;go_wp2_with fail
 go_loopw [5] (fun t5 wr=>∃k:Nat,k≤n∧t5=UE UL k∧(∀j (hj:j<S.ds.length),j<k→0<no→S.ds[j].aB≠no)∧wr=w) (fun t5 _=>n-(intOf t5).toNat)
 case atStart=>exact⟨0,Nat.zero_le _,rfl,fun j _ h=>absurd h (Nat.not_lt_zero _),rfl⟩
 case round=>
  obtain⟨k,hk,rfl,hno,rfl⟩:=hrel;have kO:=Ux hno;clear hno;by_cases hlt:k<n
  ·have hkl:k<S.ds.length:=by rw[K9.o];exact hlt
   obtain⟨g,cap,uX,-,-,hg,hc,-,-⟩:=HW.o.lS (by omega);have he:=ka.o.symm.trans uX;injection he with D6 lx he3;subst D6;obtain⟨c0,c1,-,-,-,-⟩:=hc k hkl;have gQ:=Ux (fun h0=>qC.o h0 k hkl);clear hc uX lx he3;by_cases h0:0<no
   ·by_cases hq:S.ds[k].aB=no
    ·have HR:=Ux (gQ.o h0 (fun j hj hjk=>kO.o j hj hjk h0) hq);have hqb:(S.ds[k].aB==no)=true:=by simpa using hq
     generalize S.ds[k]=v at c0 c1 hqb HR;clear hq;go_wp2_with fail;go_ret;exact⟨by rw[HR.o];rfl,rfl⟩
    ·have hqb:(S.ds[k].aB==no)=false:=by simpa using hq
     have DH:=Ux (show∀j (hj:j<S.ds.length),j<k+1→0<no→S.ds[j].aB≠no from fun j hj hjk h0=>by
      by_cases e:j=k
      ·subst e;exact hq
      ·exact kO.o j hj (by omega) h0)
     generalize S.ds[k]=v at c0 c1 hqb;clear hq;go_wp2_with fail;go_roundw
     case rel=>exact⟨k+1,by omega,by go_num,DH.o,by trivial⟩
     case measure=>simp[intOf];omega
   ·have DH:=Ux (show∀j (hj:j<S.ds.length),j<k+1→0<no→S.ds[j].aB≠no from fun j hj hjk h1=>absurd h1 h0);clear c0 c1;go_wp2_with fail;go_roundw
    case rel=>exact⟨k+1,by omega,by go_num,DH.o,by trivial⟩
    case measure=>simp[intOf];omega
  ·obtain rfl:k=n:=by omega
   have HR:=Ux (show out=no by
    by_cases h0:0<no
    ·exact pM.o (fun j hj=>kO.o j hj (by rw[←K9.o];exact hj) h0)
    ·exact Es.o (by omega))
   go_wp2_with fail;go_ret;exact⟨by rw[HR.o];rfl,rfl⟩
end
end
section
open Go.RowKit
section
variable{w w':World}{pf:Nat}{R:Rf}{S:Fs}
theorem Bp(S:Fs)(hn:eU S)(aB b n:Int) :
  {((S.add (jL S)).set {jL S with no:=S.last+1,up:=S.last+1}) with ds:=S.ds++[⟨S.last+1,aB,1,1,b,n⟩]}=S.aD aB b n:=by
 unfold Fs.aD Fs.set Fs.add;simp only[List.map_append,List.map_cons,List.map_nil];congr 1;congr 1
 ·conv=>rhs;rw[←List.map_id S.ns]
  apply List.map_congr_left;intro x hx;have:=hn.low x hx;simp only[id_eq];rw[if_neg];simp;omega
 ·simp[jL]
theorem sH(h:aW w pf R S)(hn:eU S)(fk:0≤S.last)(mT:S.last≤100000)(hgl:S.ns.length≤100000)(hd:S.ds.length≤7)(aB b n:Int) :
  Calls Tryz.prog 130 #[UH (some ⟨pf,0,none⟩),UE UL aB,UE UL b,UE UL n] w fun e w'=>e=.returned (UE UL (S.last+1))∧∃R',aW w' pf R' (S.aD aB b n)∧aS (R.F pf) (R'.F pf) w w'∧Rf.cY R R':=by
 have hlen:=h.len;obtain⟨da,dc,hdv,Jw,Ps⟩:=h.Ef;obtain⟨pc,-,pz⟩:=h.bD.facts;rw[hdv] at pc;obtain⟨m,hm⟩:∃m,S.ds.length=m:=⟨_,rfl⟩;have Hm:=Ux hm;obtain⟨S2,j7⟩:∃S2,S.add (jL S)=S2:=⟨_,rfl⟩;obtain⟨a5,G9⟩:∃a5:An,{jL S with no:=S.last+1}=a5:=⟨_,rfl⟩;obtain⟨a6,Mu⟩:∃a6:An,{jL S with no:=S.last+1,up:=S.last+1}=a6:=⟨_,rfl⟩;have HAdd:=Ux (show Calls Tryz.prog 166 #[UH (some ⟨pf,0,none⟩),UJ #[UE UL 0,UE UL ((m:Int)+1),UE UL 1,UE UL 493,UE UL 0,UE UL 0,UE UL 0,UE UL 0,UE UL 1,UE UL 0,UF ByteArray.empty,UG none 0 0]] w fun e w'=>e=.returned (UE UL (S.last+1))∧∃R',aW w' pf R' S2∧aS (R.F pf) (R'.F pf) w w'∧Rf.cY R R'∧R'.dv=R.dv by
  rw[←hm,←j7];exact Ac h (a:=jL S) (aA.nil w) fk (by omega) (by omega))
 have KF:=Ux (show S2.get (S.last+1)=some a5 by rw[←j7,←G9,gZ hn];exact if_pos rfl);have HV5:=Ux (fun(ea:Option Addr) (el ec:Nat)=>show a5.v ea el ec=UJ #[UE UL (S.last+1),UE UL ((m:Int)+1),UE UL 1,UE UL 493,UE UL 0,UE UL 0,UE UL 0,UE UL 0,UE UL 1,UE UL 0,UF ByteArray.empty,UG ea el ec] by rw[←G9,←hm];rfl);have HV6:=Ux (fun(ea:Option Addr) (el ec:Nat)=>show a6.v ea el ec=UJ #[UE UL (S.last+1),UE UL ((m:Int)+1),UE UL 1,UE UL 493,UE UL 0,UE UL 0,UE UL 0,UE UL 0,UE UL 1,UE UL (S.last+1),UF ByteArray.empty,UG ea el ec] by rw[←Mu,←hm];rfl);have Ur:=Ux (show a6.no=S.last+1∧a6.au=a5.au by rw[←Mu,←G9];exact⟨rfl,rfl⟩);have HEq:=Ux (show{(S2.set a6) with ds:=(S2.set a6).ds++[⟨S.last+1,aB,1,1,b,n⟩]}=S.aD aB b n by rw[←j7,←Mu];exact Bp S hn aB b n);have G3:=Ux (show(S2.set a6).ds.length=m by rw[←j7,←hm];rfl);have BQ:=Ux (show eU S2 by rw[←j7];exact hn.add fk (jL S));have hmm:(m:Int)≤7:=by omega
 rw[hm] at pc;clear h hm j7 G9 Mu hlen hgl;go_enter Tryz.func130,Tryz.ntmps130;go_wp2_with fail;refine HAdd.o.mono ?_;rintro e w5 ⟨rfl,R5,ez,dw,gN,rp⟩;have rD:=Ux (ag ez (ag dw (ag gN rp)));obtain⟨ea,el,ec,hE,hG⟩:=l6 ez KF.o;rw[HV5.o] at hG;have HG:=Ux hG;have HE:=Ux hE;clear ez dw gN rp hG hE pc;go_wp2_with fail;refine HG.o.mono ?_;rintro e w6 ⟨rfl,fp⟩;have aJ:=ao fp (.cells #[UE UL (S.last+1),UE UL ((m:Int)+1),UE UL 1,UE UL 493,UE UL 0,UE UL 0,UE UL 0,UE UL 0,UE UL 1,UE UL (S.last+1),UF ByteArray.empty,UG ea el ec] 149);have ey:=Ux (kA (rD.o.1.an aJ) BQ.o (a:=a6) (ea:=ea) (el:=el) (ec:=ec) (by rw[Ur.o.2];exact HE.o.an aJ) (b:=a5) (by rw[Ur.o.1];exact KF.o));rw[HV6.o] at ey;have jJ:=Ux fp;have bC:=Ux aJ;clear fp aJ;go_wp2_with fail;refine ey.o.mono ?_;rintro e w7 ⟨rfl,R7,C3,jf,JO,SO⟩;obtain⟨xc,xf,xz⟩:=C3.bD.facts;have Pr:R7.dv=UG da m dc:=by rw[SO,rD.o.2.2.2,hdv,Hm.o]
 rw[Pr] at xc;have rl:UA w7 (w7.alloc (.cells #[UE UL (S.last+1),UE UL aB,UE UL 1,UE UL 1,UE UL b,UE UL n] 266)):=(Below.refl _ w7).alloc (aa _) _;obtain⟨g,cap,Y,hrun,KX,Mw,eT,QS⟩:=(C3.an rl).appD (by rw[G3.o];omega) ⟨w7.heap.size,0,none⟩ ⟨S.last+1,aB,1,1,b,n⟩ (World.news_of_block (ax.new w7 #[UE UL (S.last+1),UE UL aB,UE UL 1,UE UL 1,UE UL b,UE UL n] 266));obtain⟨yc,yf,yz⟩:=eT.facts;rw[G3.o,Pr] at hrun;rw[Pr] at yc;rw[HEq.o] at KX;rw[G3.o] at KX Mw;have HF:=Ux (ag KX (ag ((((rD.o.2.1.trans (aS.aq bC.o)).trans jf).trans (aS.aq rl)).trans Mw) (rD.o.2.2.1.trans JO)));have HR:=Ux hrun;clear C3 jf JO SO rl KX Mw eT QS hrun;go_wp2_with (at_builtin;refine aT rfl rfl rfl rfl HR.o ?_);go_ret;exact⟨rfl,_,HF.o.1,HF.o.2.1,⟨HF.o.2.2.now,HF.o.2.2.jc,HF.o.2.2.pl,HF.o.2.2.dd⟩⟩
end
end
section
open Go.RowKit
def LJ:Rf:=⟨UG none 0 0,UG none 0 0,[],0,UE UL 0,UG none 0 0,.bool false⟩
theorem IL(b n:Int)(hlim:ig b n=true)(w:World) :
  Calls Tryz.prog 92 #[UE UL b,UE UL n] w fun e w'=>∃pf R',e=.returned (UH (some ⟨pf,0,none⟩))∧aW w' pf R' (qh.aD 0 b n)∧(∀k,R'.F pf k→w.heap.size≤k)∧Rf.cY LJ R'∧UA w w':=by
 have de:=(Below.refl _ w).alloc (aa _) (.cells #[UG none 0 0,UG none 0 0,UE UL 0,UE UL 0,UE UL 0,UG none 0 0,.bool false] 55);have h0:aW (w.alloc (.cells #[UG none 0 0,UG none 0 0,UE UL 0,UE UL 0,UE UL 0,UG none 0 0,.bool false] 55)) w.heap.size LJ qh:=
  ⟨ax.new w _ _,World.ownsRow_nil _ _ _ _,World.ownsRow_nil _ _ _ _,rfl,fun g hg=>by cases hg⟩
 have Hh:=Ux (sH h0 ⟨List.Pairwise.nil,fun x hx=>by simp[qh] at hx⟩ (by decide) (by decide) (by decide) (by decide) 0 b n);have qD:=Ux (fun w=>lp b n w);rw[hlim] at qD;have cB:=Ux de;clear h0 de hlim;go_enter Tryz.func92,Tryz.ntmps92;go_wp2_with fail;refine(qD.o _).mono ?_;rintro e w1 ⟨rfl,rfl⟩;go_wp2_with fail;refine Hh.o.mono ?_;rintro e w2 ⟨rfl,R',hR,hS,hL⟩;have HX:=Ux (ag hR (ag hS hL));clear hR hS hL;go_wp2_with fail;go_ret;have hF:∀k,LJ.F w.heap.size k→w.heap.size≤k:=fun k hk=>by
  rcases hk with rfl|hk|hk
  ·exact aa _
  ·cases hk
  ·cases hk
 exact⟨_,R',rfl,HX.o.1,HX.o.2.1.bl hF (by simp),HX.o.2.2,cB.o.trans (HX.o.2.1.below hF (by simp))⟩
section
variable{w w':World}{pf:Nat}{R:Rf}{S:Fs}
theorem sK(h:aW w pf R S){N:Nat}(hk:ay S N)(hN:N≤100000)(hgl:S.ns.length≤100000)(no b n:Int) :
  Calls Tryz.prog 133 #[UH (some ⟨pf,0,none⟩),UE UL no,UE UL b,UE UL n] w fun e w'=>e=.returned (UK #[UE UL (S.bR no b n).2.1,UE UL (S.bR no b n).2.2])∧∃R',aW w' pf R' (S.bR no b n).1∧aS (R.F pf) (R'.F pf) w w'∧Rf.cY R R':=by
 have hkeep:∀w2,UA w w2→∃R',aW w2 pf R' S∧aS (R.F pf) (R'.F pf) w w2∧Rf.cY R R':=fun w2 hb=>⟨R,h.an hb,aS.aq hb,Rf.cY.refl R⟩;have kT:=Ux hkeep;have HW:=Ux h;have HK:=Ux hk
 cases hg:S.get no with
 |none=>
  have HM:=Ux (show S.bR no b n=(S,0,5) by unfold Fs.bR;rw[hg]);have HG:=Ux (mM h hg);unfold An.v dD at HG;clear h hk hg hkeep;go_enter Tryz.func133,Tryz.ntmps133;go_wp2_with fail;refine HG.o.mono ?_;rintro e w1 ⟨rfl,av⟩;have HB:=Ux (ao av (.cells #[UE UL 0,UE UL 0,UE UL 0,UE UL 0,UE UL 0,UE UL 0,UE UL 0,UE UL 0,UE UL 0,UE UL 0,UF ByteArray.empty,UG none 0 0] 149));clear av;go_wp2_with fail;go_ret2;rw[HM.o];exact⟨rfl,kT.o _ HB.o⟩
 |some a=>
  obtain⟨hao,hno,h1,-⟩:=hk.get hg;obtain⟨ea,el,ec,-,hgc⟩:=l6 h hg;have HG:=Ux hgc;unfold An.v at HG;have hz:(a.no==0)=false:=by simp only[beq_eq_false_iff_ne,ne_eq];omega
  have HM:=Ux (show S.bR no b n=if a.kind≠1 then(S,0,9) else if S.aB no≠no∨S.root a.dev=no then(S,0,16) else if 8≤S.ds.length∨ig b n=false then(S,0,3) else(S.aD no b n,S.last+1,0) by unfold Fs.bR;rw[hg]);have uL:=Ux (fun w1 (av:UA w w1)=>mK (h.an av) a.dev);have pL:=Ux (fun w1 (av:UA w w1)=>vL (h.an av) no);have qD:=Ux (fun w=>lp b n w);obtain⟨da,dc,hdv,Jw,Ps⟩:=h.Ef;obtain⟨pc,-,pz⟩:=h.bD.facts;rw[hdv] at pc;generalize hov:S.aB no=ov at HM pL;generalize hrt:S.root a.dev=rt at HM uL;have de:∀w1,UA w w1→UA w (w1.alloc (.cells #[UE UL a.no,UE UL a.dev,UE UL a.kind,UE UL a.mode,UE UL a.uid,UE UL a.gid,UE UL a.mtime,UE UL a.ctime,UE UL a.ak,UE UL a.up,UF a.data,UG ea el ec] 149)):=fun w1 hb=>ao hb _;have cB:=Ux de;have Hh:=Ux (fun w1 (av:UA w w1) (hd:S.ds.length≤7)=>sH (h.an av) hk.nums hk.l0 (by have:=hk.lN;omega) hgl hd no b n);obtain⟨m,hm⟩:∃m,S.ds.length=m:=⟨_,rfl⟩;rw[hm] at pc HM Hh;clear h hk hg hgc hao hkeep hno hov hrt hdv hm de h1 Jw;go_enter Tryz.func133,Tryz.ntmps133;go_wp2_with fail;refine HG.o.mono ?_;rintro e w1 ⟨rfl,av⟩;have aJ:=cB.o w1 av;have fR:=ax.new w1 #[UE UL a.no,UE UL a.dev,UE UL a.kind,UE UL a.mode,UE UL a.uid,UE UL a.gid,UE UL a.mtime,UE UL a.ctime,UE UL a.ak,UE UL a.up,UF a.data,UG ea el ec] 149;go_upto_region 2 with fail;generalize w1.alloc _=X at aJ fR⊢;have bC:=Ux aJ;obtain⟨qc,qf,qz⟩:=fR.facts;have pc2:=fun i=>(aJ.cell (p:=⟨pf,i,none⟩) pz).trans (pc i);clear av aJ fR pc;by_cases h1:a.kind=1
  ·have q1:(a.kind==1)=true:=by simpa using h1
   have q2:(a.kind != 1)=false:=by simpa using h1
   have BF:=Ux (HM.o.trans (if_neg (by simpa using h1)));clear h1;by_cases h2:ov=no
   ·by_cases h3:rt=no
    ·have rW:=Ux (BF.o.trans (if_pos (.inr h3)));have q3:(ov != no)=false:=by simpa using h2
     have q4:(rt==no)=true:=by simpa using h3
     clear h2 h3;go_wp2_with fail;refine(pL.o _ bC.o).mono ?_;rintro e w2 ⟨rfl,rfl⟩;go_wp2_with fail;refine(uL.o _ bC.o).mono ?_;rintro e w2 ⟨rfl,rfl⟩;go_wp2_with fail;go_ret2;rw[rW.o];exact⟨rfl,kT.o _ bC.o⟩
    ·have rW:=Ux (BF.o.trans (if_neg (by rintro(h|h);exact h h2;exact h3 h)));have q3:(ov != no)=false:=by simpa using h2
     have q4:(rt==no)=false:=by simpa using h3
     clear h2 h3;by_cases h4:8≤m
     ·have Lb:=Ux (rW.o.trans (if_pos (.inl h4)));have q5:(8:Int)≤(m:Int):=by omega
      clear h4;go_wp2_with fail;refine(pL.o _ bC.o).mono ?_;rintro e w2 ⟨rfl,rfl⟩;go_wp2_with fail;refine(uL.o _ bC.o).mono ?_;rintro e w2 ⟨rfl,rfl⟩;go_wp2_with fail;go_ret2;rw[Lb.o];exact⟨rfl,kT.o _ bC.o⟩
     ·have q5:¬(8:Int)≤(m:Int):=by omega
      have HM7:=Ux (show m≤7 by omega)
      cases hl:ig b n with
      |false=>
       have Lb:=Ux (rW.o.trans (if_pos (.inr hl)));rw[hl] at qD;clear h4 hl;go_wp2_with fail;refine(pL.o _ bC.o).mono ?_;rintro e w2 ⟨rfl,rfl⟩;go_wp2_with fail;refine(uL.o _ bC.o).mono ?_;rintro e w2 ⟨rfl,rfl⟩;go_wp2_with fail;refine(qD.o _).mono ?_;rintro e w2 ⟨rfl,rfl⟩;go_wp2_with fail;go_ret2;rw[Lb.o];exact⟨rfl,kT.o _ bC.o⟩
      |true=>
       have Lb:=Ux (rW.o.trans (if_neg (by rintro(h|h);exact h4 h;rw[hl] at h;cases h)));rw[hl] at qD;clear h4 hl;go_wp2_with fail;refine(pL.o _ bC.o).mono ?_;rintro e w2 ⟨rfl,rfl⟩;go_wp2_with fail;refine(uL.o _ bC.o).mono ?_;rintro e w2 ⟨rfl,rfl⟩;go_wp2_with fail;refine(qD.o _).mono ?_;rintro e w2 ⟨rfl,rfl⟩;go_wp2_with fail;refine(Hh.o _ bC.o HM7.o).mono ?_;rintro e w3 ⟨rfl,R',hR,hS,hL⟩;have HF:=Ux (ag hR (ag ((aS.aq bC.o).trans hS) hL));clear hR hS hL;go_wp2_with fail;go_ret2;rw[Lb.o];exact⟨rfl,R',HF.o.1,HF.o.2.1,HF.o.2.2⟩
   ·have rW:=Ux (BF.o.trans (if_pos (.inl h2)));have q3:(ov != no)=true:=by simpa using h2
    clear h2;go_wp2_with fail;refine(pL.o _ bC.o).mono ?_;rintro e w2 ⟨rfl,rfl⟩;go_wp2_with fail;go_ret2;rw[rW.o];exact⟨rfl,kT.o _ bC.o⟩
  ·have q1:(a.kind==1)=false:=by simpa using h1
   have q2:(a.kind != 1)=true:=by simpa using h1
   have BF:=Ux (HM.o.trans (if_pos (by simpa using h1)));clear h1;go_wp2_with fail;go_ret2;rw[BF.o];exact⟨rfl,kT.o _ bC.o⟩
end
end
section
open Go.RowKit
section
variable{w w':World}{pf:Nat}{R:Rf}{S:Fs}
theorem Cw(h:aW w pf R S){N:Nat}(hk:ay S N)(no:Int) :
  Calls Tryz.prog 171 #[UH (some ⟨pf,0,none⟩),UE UL no] w fun e w'=>e=.returned (UE UL (S.bl no))∧UA w w':=by
 have mixed:Tryz.prog.follows .mixedOrders=true:=by kernel_rfl
 cases hg:S.get no with
 |none=>
  have HA:=Ux (jT hg);have HG:=Ux (mM h hg);unfold An.v dD at HG;clear h hk hg;go_enter Tryz.func171,Tryz.ntmps171;go_wp2_with fail;refine HG.o.mono ?_;rintro e w1 ⟨rfl,av⟩;have HB:=Ux (ao av (.cells #[UE UL 0,UE UL 0,UE UL 0,UE UL 0,UE UL 0,UE UL 0,UE UL 0,UE UL 0,UE UL 0,UE UL 0,UF ByteArray.empty,UG none 0 0] 149));clear av;go_wp2_with fail;go_ret;rw[HA.o];exact⟨rfl,HB.o⟩
 |some a=>
  obtain⟨hao,hno,j6,-⟩:=hk.get hg;obtain⟨ea,el,ec,-,hgc⟩:=l6 h hg;have HG:=Ux hgc;unfold An.v at HG;have HA:=Ux (show S.bl no=if a.kind≠1 then 0 else if S.root a.dev=no∧1<a.dev then(match S.dev a.dev with|none=>0|some v=>match S.get v.aB with|none=>0|some b=>b.up) else a.up by unfold Fs.bl;rw[hg];rfl);have uL:=Ux (fun w1 (av:UA w w1)=>mK (h.an av) a.dev);have cB:=Ux (show∀w1,UA w w1→UA w (w1.alloc (.cells #[UE UL a.no,UE UL a.dev,UE UL a.kind,UE UL a.mode,UE UL a.uid,UE UL a.gid,UE UL a.mtime,UE UL a.ctime,UE UL a.ak,UE UL a.up,UF a.data,UG ea el ec] 149)) from fun w1 hb=>ao hb _);obtain⟨v,hv,hrv,-,-⟩:=jr hk hao.dev.1 hao.dev.2;obtain⟨g,cap,hdv,hle,zd,hgl,hc,-,-⟩:=h.lS hk.d1;obtain⟨pc,-,pz⟩:=h.bD.facts;rw[hdv] at pc;obtain⟨k,hkd⟩:∃k:Nat,a.dev=(k:Int)+1:=⟨(a.dev-1).toNat,by have:=hao.dev.1;omega⟩;have hkl:k<S.ds.length:=by have:=hao.dev.2;omega
  have hvk:S.ds[k]=v:=by
   unfold Fs.dev at hv;rw[if_pos (by omega),hkd,show((k:Int)+1-1).toNat=k by omega,List.getElem?_eq_getElem hkl] at hv;simpa using hv
  have cc:=(hc k hkl).c1;rw[hvk] at cc;rw[hv] at HA;have HGv:=Ux (fun w1 (av:UA w w1)=>ag (fun(hgv:S.get v.aB=none)=>mM (h.an av) hgv) (fun b (hgv:S.get v.aB=some b)=>l6 (h.an av) hgv));have HGp:=Ux pc;generalize hrt:S.root a.dev=rt at HA uL;have hkl2:k<S.ds.length:=hkl;generalize S.ds.length=m at pc hle hkl2;clear h hg hgc hao hrv hv hc hdv hvk hkl hrt hk hno HGp;rw[hkd] at HG uL HA cB;have hkm:(k:Int)+1≤(m:Int):=by omega
  go_enter Tryz.func171,Tryz.ntmps171;go_wp2_with fail;refine HG.o.mono ?_;rintro e w1 ⟨rfl,av⟩;have aJ:=cB.o w1 av;have fR:=ax.new w1 #[UE UL a.no,UE UL ((k:Int)+1),UE UL a.kind,UE UL a.mode,UE UL a.uid,UE UL a.gid,UE UL a.mtime,UE UL a.ctime,UE UL a.ak,UE UL a.up,UF a.data,UG ea el ec] 149;go_upto_region 2 with fail;generalize w1.alloc _=X at aJ fR⊢;have bC:=Ux aJ;have dX:=Ux fR;have rK:=av.size;obtain⟨qc,qf,qz⟩:=fR.facts;have pc2:=fun i=>(aJ.cell (p:=⟨pf,i,none⟩) pz).trans (pc i);have cc2:=(aJ.cell (p:=⟨g,k*6+1,none⟩) hgl).trans cc;have SH:g<X.heap.size:=Nat.lt_of_lt_of_le hgl aJ.size;clear av aJ fR pc cc;by_cases h1:a.kind=1
  ·have q1:(a.kind==1)=true:=by simpa using h1
   have q2:(a.kind != 1)=false:=by simpa using h1
   have Ut:=Ux (HA.o.trans (if_neg (by simpa using h1)));clear h1;by_cases h2:1<(k:Int)+1
   ·by_cases h3:rt=no
    ·have pG:=Ux (Ut.o.trans (if_pos ⟨h3,h2⟩));have q3:(rt==no)=true:=by simpa using h3
     clear h3;go_wp2_with fail;refine(uL.o _ bC.o).mono ?_;rintro e w2 ⟨rfl,rfl⟩;go_wp2_with fail;have hwr1:IntKind.i64.wrap ((k:Int)+1-1)=(k:Int):=by simp[IntKind.wrap,IntKind.bits,IntKind.signed];omega
     have hwr2:IntKind.i64.wrap (k:Int)=(k:Int):=by simp[IntKind.wrap,IntKind.bits,IntKind.signed];omega
     have QL:(0:Int)≤(k:Int)∧(k:Int)<(m:Int)∧((k:Int)).toNat=k:=by omega
     obtain⟨gv,gM,im⟩:=QL;refine aG 11 mixed (by kernel_rfl) (show cn _ from by repeat (first|exact cS|refine cR ?_|refine cx ?_|refine cG ?_)) ?_;simp only[List.take_succ_cons,List.take_zero,List.drop_succ_cons,List.drop_zero]
     repeat still_step
     refine wpStill_nil ?_
     cases hgv:S.get v.aB with
     |none=>
      have HC:=Ux (((HGv.o _ bC.o.drew).1 hgv));unfold An.v dD at HC;have Rz:=Ux (show S.bl no=0 by rw[pG.o,hgv]);clear hgv qc qf qz pc2 cc2;go_wp2_with fail;refine HC.o.mono ?_;rintro e w3 ⟨rfl,cl⟩;have wD:=(dX.o.drew).an cl;obtain⟨qc,qf,qz⟩:=wD.facts;have gn:=Ux (bC.o.drew.trans (cl.mono (by have:=bC.o.size;simpa using this)));clear cl wD;go_wp2_with fail;go_ret;rw[Rz.o];exact⟨rfl,bg gn.o rK⟩
     |some b=>
      obtain⟨fa,fl,fc,-,hcb⟩:=(HGv.o _ bC.o.drew).2 b hgv;have HC:=Ux hcb;unfold An.v at HC;have Rz:=Ux (show S.bl no=b.up by rw[pG.o,hgv]);clear hgv hcb qc qf qz pc2 cc2;go_wp2_with fail;refine HC.o.mono ?_;rintro e w3 ⟨rfl,cl⟩;have wD:=(dX.o.drew).an cl;obtain⟨qc,qf,qz⟩:=wD.facts;have gn:=Ux (bC.o.drew.trans (cl.mono (by have:=bC.o.size;simpa using this)));clear cl wD;go_wp2_with fail;go_ret;rw[Rz.o];exact⟨rfl,bg gn.o rK⟩
    ·have pG:=Ux (Ut.o.trans (if_neg (fun h=>h3 h.1)));have q3:(rt==no)=false:=by simpa using h3
     clear h3;go_wp2_with fail;refine(uL.o _ bC.o).mono ?_;rintro e w2 ⟨rfl,rfl⟩;go_wp2_with fail;go_ret;rw[pG.o];exact⟨rfl,bC.o⟩
   ·have pG:=Ux (Ut.o.trans (if_neg (fun h=>h2 h.2)));go_wp2_with fail;go_ret;rw[pG.o];exact⟨rfl,bC.o⟩
  ·have q1:(a.kind==1)=false:=by simpa using h1
   have q2:(a.kind != 1)=true:=by simpa using h1
   have Ut:=Ux (HA.o.trans (if_pos (by simpa using h1)));clear h1;go_wp2_with fail;go_ret;rw[Ut.o];exact⟨rfl,bC.o⟩
end
end
section
open Go.RowKit
section
variable{w w':World}{pf:Nat}{R:Rf}{S:Fs}
end
end
section
open Go.RowKit
def se(o:Option ByteArray):Value:=UK #[UF (o.getD ByteArray.empty),.bool o.isSome]
def nmOf(l:List En)(no:Int):ByteArray:=(en l no).getD ByteArray.empty
section
variable{w w':World}{pf:Nat}{R:Rf}{S:Fs}
end
end
section
open Go.RowKit
theorem yr{es:List En}{no:Int}{k:Nat}(hk:k<es.length):en (es.drop k) no=if es[k].no=no then some es[k].name else en (es.drop (k+1)) no:=by
 rw[List.drop_eq_getElem_cons hk,yt]
theorem Gr(es:List En)(a:Option Addr)(n c:Nat)(no:Int)(w:World)(he:aA w a n c es) :
  Calls Tryz.prog 142 #[UG a n c,UE UL no] w fun e w'=>e=.returned (se (en es no))∧UA w w':=by
 have hl:=he.len;subst hl;have jH:=he.sl.2.1;have fE:=he.sl.2.2.1;have HE:=Ux he;have HS:=Ux (show en es no=en (es.drop 0) no from rfl);generalize en es no=out at HS⊢;clear he;go_enter Tryz.func142,Tryz.ntmps142;go_wp2_with fail
 go_loopw [10] (fun t10 wr=>∃k:Nat,k≤es.length∧t10=UE UL k∧out=en (es.drop k) no∧UA w wr) (fun t10 _=>es.length-(intOf t10).toNat)
 case atStart=>exact⟨0,Nat.zero_le _,rfl,HS.o,Below.refl _ _⟩
 case round=>
  obtain⟨k,hk,rfl,hf,hb⟩:=hrel;by_cases hlt:k<es.length
  ·have lx:=HE.o.an hb;obtain⟨b,off,rfl,hbl⟩:=lx.ej (by omega);obtain⟨c0,c1⟩:=lx.cell k hlt;rw[yr hlt] at hf;have HF:=Ux hf;have HB:=Ux hb;generalize es[k]=x at c0 c1 HF;clear hf hb lx;by_cases hx:x.no=no
   ·have HR:=Ux (HF.o.trans (if_pos hx));have hq:(x.no==no)=true:=by simpa using hx
    clear hx;go_wp2_with fail;go_ret2;exact⟨by rw[HR.o];rfl,ao HB.o _⟩
   ·have HR:=Ux (HF.o.trans (if_neg hx));have hq:(x.no==no)=false:=by simpa using hx
    clear hx;go_wp2_with fail;go_roundw
    case measure=>simp[intOf];omega
    case rel=>exact⟨k+1,by omega,by go_num,HR.o,ao HB.o _⟩
  ·obtain rfl:k=es.length:=by omega
   rw[List.drop_length] at hf;have HR:=Ux (show out=none from hf);have HB:=Ux hb;clear hf hb;go_wp2_with fail;go_ret2;exact⟨by rw[HR.o];rfl,HB.o⟩
section
variable{w w':World}{pw:Nat}{R:Rp}{S:Fs}
theorem zj(h:bB w pw R S){N:Nat}(hk:ay S N)(hp:Pl S)(no base:Int) :
  Calls Tryz.prog 113 #[UH (some ⟨pw,0,none⟩),UE UL no,UE UL base] w fun e w'=>e=.returned (.bool (S.within no base))∧UA w w':=by
 have HS:=Ux (show S.within no base=S.dI base (S.ns.length+1) no∧S.FP (S.ns.length+1) no from⟨rfl,CF hk hp no⟩);have HA:=Ux (fun w1 (av:UA w w1) x=>nI (h.an av) hk x);have HK:=Ux (ag hk hp);generalize S.within no base=out at HS⊢;clear h hk hp;go_enter Tryz.func113,Tryz.ntmps113;go_wp2_with fail
 go_loopw [1] (fun t1 wr=>∃(k:Nat) (x:Int),t1=UE UL x∧out=S.dI base k x∧S.FP k x∧UA w wr) (fun t1 _=>if intOf t1=0 then 0 else(intOf t1).toNat+1)
 case atStart=>exact⟨_,no,rfl,HS.o.1,HS.o.2,Below.refl _ _⟩
 case round=>
  obtain⟨k,x,rfl,hE,hn,hb⟩:=hrel;have HE:=Ux hE;have HN:=Ux hn;have HB:=Ux hb;clear hE hn hb;by_cases h0:x=0
  ·have p0:(x != 0)=false:=by simpa using h0
   have HO:=Ux (show out=false by rw[HE.o,h0,zt]);clear h0;go_wp2_with fail;go_ret;rw[HO.o];exact⟨rfl,HB.o⟩
  ·have p0:(x != 0)=true:=by simpa using h0
   have H0:=Ux h0;clear h0;by_cases h1:x=base
   ·have p1:(x==base)=true:=by simpa using h1
    have HO:=Ux (show out=true by rw[HE.o,BW HN.o H0.o h1]);clear h1;go_wp2_with fail;go_ret;rw[HO.o];exact⟨rfl,HB.o⟩
   ·have p1:(x==base)=false:=by simpa using h1
    have H1:=Ux h1;have HAx:=Ux (HA.o wr HB.o x);clear h1;by_cases h2:S.bl x=x
    ·have p2:(S.bl x==x)=true:=by simpa using h2
     have HO:=Ux (show out=false by rw[HE.o,BX h2 H1.o]);generalize S.bl x=ab at HAx p2;clear h2;go_wp2_with fail;refine HAx.o.mono ?_;rintro e w1 ⟨rfl,av⟩;have dX:=Ux (ar HB.o av);clear av;go_wp2_with fail;go_ret;rw[HO.o];exact⟨rfl,dX.o⟩
    ·have p2:(S.bl x==x)=false:=by simpa using h2
     have hst:=zu HK.o.1 HK.o.2 HN.o H0.o H1.o h2;have HO:=Ux (show out=_ from HE.o.trans hst.1);have BQ:=Ux hst.2;have hup:=lH HK.o.1 HK.o.2 h2;have uB:=Ux hup;generalize S.bl x=ab at HAx p2 HO BQ uB;clear h2 hst hup;go_wp2_with fail;refine HAx.o.mono ?_;rintro e w1 ⟨rfl,av⟩;have dX:=Ux (ar HB.o av);clear av;go_wp2_with fail;go_roundw
     case rel=>exact⟨k-1,ab,rfl,HO.o,BQ.o,dX.o⟩
     case measure=>
      have h0:=H0.o;show(if ab=0 then 0 else ab.toNat+1)<(if x=0 then 0 else x.toNat+1);rw[if_neg h0];rcases uB.o with h|⟨h1,h2,-,-⟩
      ·rw[if_pos h];omega
      ·rw[if_neg (by omega)];omega
def useV(S:Fs)(d:Int):Value:=match S.dev d with
 |some v=>UJ #[UE UL v.b,UE UL v.n,UE UL v.mb,UE UL v.mn]
 |none=>UJ #[UE UL 0,UE UL 0,UE UL 0,UE UL 0]
end
end
section
open Go.RowKit
def nn(b:Nat)(l:List UInt8)(w:World):Prop:=Lib.IsBuilderF 117 5 b b (Lib.byteCells l) w
theorem nn.of{b:Nat}{l:List UInt8}{w:World}(h:vv b l w):nn b l w:=Lib.IsBuilderF.of h
theorem nn.lt{b:Nat}{l:List UInt8}{w:World}(h:nn b l w):b<w.heap.size:=by
 rcases h with h|h<;>exact h.lt
theorem CE{w w':World}{base:Nat}{e:TypeId}{sz n:Nat}{v:Value}{xs:List Value}(h:w.ownsRowF base e sz v n xs)(hm:UA w w'):w'.ownsRowF base e sz v n xs:=by
 refine⟨h.1,h.2.imp id fun⟨g,cap,cur,fz,hv,hb,hg,rest⟩=>⟨g,cap,cur,fz,hv,hb,?_,rest⟩⟩;rw[hm.block g (Array.getElem?_eq_some_iff.1 hg).1];exact hg
theorem wO{T e:TypeId}{B b:Nat}{p:Value}{bs:List Value}{w w':World}(h:Lib.BuilderAtF T e B b p bs w)(hm:UA w w'):Lib.BuilderAtF T e B b p bs w':=by
 have hlt:=h.lt;obtain⟨hB,v,hb,hown,hne⟩:=h;exact⟨hB,v,(hm.block b hlt).trans hb,CE hown hm,hne⟩
theorem nn.below{b:Nat}{l:List UInt8}{w w':World}(h:nn b l w)(hm:UA w w'):nn b l w':=
 h.imp (fun h=>wO h hm) (fun h=>wO h hm)
abbrev Oth(b:Nat)(w w':World):Prop:=Lib.OthersKept 5 (some b) w w'
theorem ax.oth{w w':World}{b B:Nat}{vs:Array Value}{T:TypeId}(h:ax w B vs T)(ho:Oth b w w')(hne:B≠b)(hT:T≠5):ax w' B vs T:=
 ho B _ h (fun e=>hne (Option.some.inj e)) (fun c fz e=>hT (by injection e))
theorem DK(b:Nat)(l:List UInt8)(s:ByteArray)(w:World)(h:nn b l w)(hl:l.length≤1000000000)(hm:s.size≤1000000000) :
  Calls Tryz.prog 43 #[UH (some ⟨b,0,none⟩),UF s] w fun e w'=>e=.returned (UK #[UE UL s.size,.nilIface])∧nn b (l++s.data.toList) w'∧Below b w w'∧Oth b w w':=by
 refine(Any.Builder_WriteString_k Tryz.D2 Tryz.kd b b (Lib.byteCells l) s w h (by rw[iO];omega) (Nat.le_of_lt h.lt)).mono ?_;rintro e w' ⟨rfl,h1,h2,h3⟩;refine⟨rfl,.inr ?_,h2,h3⟩;have:Lib.byteCells (l++s.data.toList)=Lib.byteCells l++Lib.strCells s:=by simp[Lib.byteCells,Lib.strCells]
 rw[this];exact h1
theorem Eo(b:Nat)(l:List UInt8)(w:World)(h:nn b l w)(h0:l≠[]) :
  Calls Tryz.prog 46 #[UH (some ⟨b,0,none⟩)] w fun e w'=>e=.returned (UF (str l))∧Below b w w':=by
 refine(Any.Builder_String_k Tryz.D1 Tryz.kb b b l w h h0).mono ?_;rintro e w' ⟨rfl,-,h2,-⟩;exact⟨rfl,h2⟩
end
section
open Go.RowKit
instance RY:LawfulBEq ByteArray where
 eq_of_beq {a b} h:=by
  obtain⟨a⟩:=a;obtain⟨b⟩:=b;have h2:(a==b)=true:=h;rw[eq_of_beq h2]
 rfl {a}:=by
  obtain⟨a⟩:=a;show(a==a)=true;simp
def entS(x:ByteArray×Value×Nat):MapEntry:={key:=UF x.1,val:=x.2.1,born:=x.2.2}
def MapBS(w:World)(m:Nat)(l:List (ByteArray×Value×Nat))(eo:Nat):Prop:=w.heap[m]?=some (.map (l.map entS).toArray eo)
def Q6(l:List (ByteArray×Value×Nat)):Prop:=(l.map (·.1)).Nodup
def RX(l:List (ByteArray×Value×Nat))(k:ByteArray):Option Value:=(l.find? (fun x=>x.1==k)).map (·.2.1)
def mapPutS(l:List (ByteArray×Value×Nat))(k:ByteArray)(v:Value):List (ByteArray×Value×Nat):=l.map fun x=>if x.1==k then(k,v,x.2.2) else x
def mapDelS(l:List (ByteArray×Value×Nat))(k:ByteArray):List (ByteArray×Value×Nat):=l.filter fun x=>!(x.1==k)
section
variable{P:Program}{K E T:TypeId}{w:World}{m:Nat}{l:List (ByteArray×Value×Nat)}{eo:Nat}
end
end
section
open Go.RowKit
def ddB:List UInt8:=[46,46]
def clS(whole:Bool)(out:List (List UInt8))(p:List UInt8):List (List UInt8):=
 if p≠ddB then out++[p] else if out≠[]∧out.getLast?≠some ddB then out.dropLast else if whole then out else out++[p]
def clL(whole:Bool)(l:List (List UInt8)):List (List UInt8):=l.foldl (clS whole) []
def xh(s:List UInt8):Bool:=s.head?==some 47
def P2(s:List UInt8):List UInt8:=
 if xh s then 47::Lib.join (clL true (b8 s)) [47] else if Lib.join (clL false (b8 s)) [47]=[] then[46] else Lib.join (clL false (b8 s)) [47]
def km(s:ByteArray):ByteArray:=str (P2 s.data.toList)
def onceL(l:List ByteArray):List ByteArray:=l.foldl (fun out p=>if p∈out then out else out++[p]) []
end
section
open Go.RowKit
theorem ry{α:Type}{p:α→Bool}(l:List α)(k:Nat)(hk:k<l.length)(h:p l[k]=true):(l.take (k+1)).filter p=(l.take k).filter p++[l[k]]:=by
 rw[List.take_succ_eq_append_getElem hk,List.filter_append];simp[h]
theorem tU{α:Type}{p:α→Bool}(l:List α)(k:Nat)(hk:k<l.length)(h:p l[k]=false):(l.take (k+1)).filter p=(l.take k).filter p:=by
 rw[List.take_succ_eq_append_getElem hk,List.filter_append];simp[h]
theorem OS.len{w:World}{base:Nat}{v:Value}{ls:List (List UInt8)}(h:OS w base v ls):∃a c,v=UG a ls.length c∧ls.length≤c∧c≤9223372036854775807:=by
 obtain⟨a,c,h1,h2,h3,-⟩:=bQ h;exact⟨a,c,h1,h2,h3⟩
theorem OS.tF{w w':World}{base:Nat}{v:Value}{ls:List (List UInt8)}(h:OS w base v ls)(hb:UA w w'):OS w' base v ls:=ew h hb (aa _)
theorem OS.at'{w:World}{base c:Nat}{a:Option Addr}{ls:List (List UInt8)}(h:OS w base (UG a ls.length c) ls)(k:Nat)(hk:k<ls.length):∃g,a=some ⟨g,0,none⟩∧g<w.heap.size∧w.cell? ⟨g,k,none⟩=some (UF (str ls[k])):=by
 obtain⟨a',c',hv,-,-,h1⟩:=bQ h;injection hv with e1 e2 e3;subst e1;subst e3;rcases h1 with⟨-,h2,-⟩|⟨g,rfl,-,h3⟩
 ·omega
 ·exact⟨g,rfl,h3,h.cell k hk⟩
theorem OS.low2{w:World}{base base':Nat}{v:Value}{ls:List (List UInt8)}(h:OS w base v ls)(hb:base'≤base):OS w base' v ls:=
 ⟨h.1,h.2.imp id fun⟨g,cap,cur,hv,hg,rest⟩=>⟨g,cap,cur,hv,ae hb hg,rest⟩⟩
def sD(p:List UInt8):Bool:=!(p==[]) && !(p==[46])
theorem sI(s:ByteArray)(w:World)(hs:s.size≤100000) :
  Calls Tryz.prog 168 #[UF s] w fun e w'=>(∃v,e=.returned v∧OS w' w.heap.size v (b8 s.data.toList))∧UA w w':=by
 have Qf:=Ux (sP s w (by omega));have Qx:=Ux (show b8 s.data.toList=(lM 47 s.data.toList).filter sD from rfl);have hlen:(lM 47 s.data.toList).length≤100001:=by
  have h1:=(j1 47 s.data.toList).2;have h2:s.data.toList.length=s.size:=Array.length_toList;omega
 generalize b8 s.data.toList=R at Qx⊢;generalize lM 47 s.data.toList=ls at Qf Qx hlen;go_enter Tryz.func168,Tryz.ntmps168;go_wp2_with fail;refine Qf.o.mono ?_;rintro e w1 ⟨⟨g,cap,rfl,hO⟩,av⟩;have HO:=Ux hO;have HB:=Ux av;have rK:=av.size;clear hO av;go_wp2_with fail
 go_loopw [3,5] (fun t3 t5 wr=>∃(k:Nat),k≤ls.length∧t5=UE UL k∧OS wr w1.heap.size t3 ((ls.take k).filter sD)∧UA w1 wr) (fun _ t5 _=>ls.length-(intOf t5).toNat)
 case atStart=>exact⟨0,Nat.zero_le _,rfl,⟨rfl,.inl ⟨rfl,rfl⟩⟩,Below.refl _ _⟩
 case round=>
  obtain⟨k,hk,rfl,uJ,hW⟩:=hrel;have qC:=Ux uJ;have HW:=Ux hW;by_cases hlt:k<ls.length
  ·obtain⟨g',hg',hgl,hcl⟩:=(HO.o.tF hW).at' k hlt;injection hg' with hg';injection hg' with e1;subst e1;have TQ:=Ux (ry (p:=sD) ls k hlt);have kO:=Ux (tU (p:=sD) ls k hlt);have hfl:((ls.take k).filter sD).length≤1000000:=by
    have h1:=List.length_filter_le sD (ls.take k);have h2:(ls.take k).length≤ls.length:=by rw[List.length_take];omega
    omega
   obtain⟨g2,cap2,W,hrun,lV,dR⟩:=uJ.app ls[k] (by omega) hW.size;have HX:=Ux (ag lV dR);have Ok:=Ux (cd (str ls[k]));rw[eO] at Ok;generalize ls[k]=x at hcl TQ kO hrun HX Ok;generalize str x=p at hcl hrun Ok;clear uJ hW lV dR hfl;by_cases h1:p.toList=[]
   ·have HN:=Ux (kO.o (by rw[←Ok.o,h1];rfl));clear hrun;go_wp2_with fail;go_roundw
    case measure=>simp[intOf];omega
    case rel=>exact⟨k+1,by omega,by go_num,by rw[HN.o];exact qC.o,HW.o⟩
   ·by_cases h2:p.toList=[46]
    ·have HN:=Ux (kO.o (by rw[←Ok.o,h2];rfl));clear hrun;go_wp2_with fail;go_roundw
     case measure=>simp[intOf];omega
     case rel=>exact⟨k+1,by omega,by go_num,by rw[HN.o];exact qC.o,HW.o⟩
    ·have HY:=Ux (TQ.o (by rw[←Ok.o];unfold sD;simp[h1,h2]));have F1:p.toList.isEmpty=false:=by simpa using h1
     have Me:(p.toList==[46])=false:=by simpa using h2
     have HR:=Ux hrun;clear h1 h2 hrun;go_wp2_with (at_builtin;refine aT rfl rfl rfl rfl HR.o ?_);go_roundw
     case measure=>simp[intOf];omega
     case rel=>exact⟨k+1,by omega,by go_num,by rw[HY.o];exact HX.o.1,HW.o.trans HX.o.2⟩
  ·obtain rfl:k=ls.length:=by omega
   rw[List.take_length,←Qx.o] at qC;clear uJ hW;go_wp2_with fail;go_ret;exact⟨⟨_,rfl,qC.o.low2 rK⟩,ar HB.o HW.o⟩
end
section
open Go.RowKit
theorem GJ(b:Nat)(l:List UInt8)(w:World)(h:nn b l w) :
  Calls Tryz.prog 143 #[UH (some ⟨b,0,none⟩)] w fun e w'=>e=.returned (UE UL l.length)∧w'=w:=by
 refine(Tryz.Builder_Len_f b b (Lib.byteCells l) w h).mono ?_;rintro e w' ⟨rfl,rfl⟩;exact⟨by rw[iO],rfl⟩
theorem GI(x:List UInt8)(l:List (List UInt8)):jh (x::l)=jh l++(47::x):=by simp[jh]
section
variable{w w':World}{pw:Nat}{R:Rp}{S:Fs}
theorem Ic(h:bB w pw R S)(k:Int):∃a ea el ec b,aA w ea el ec a.au∧a.au=S.aI k∧(S.get k=some a∧b=true∨(S.get k=none∧a=dD∧b=false))∧
  ∀w1,UA w w1→Calls Tryz.prog 69 #[UH (some ⟨R.pt,0,none⟩),UE UL k] w1 fun e w'=>e=.returned (UK #[UJ #[UE UL a.no,UE UL a.dev,UE UL a.kind,UE UL a.mode,UE UL a.uid,UE UL a.gid,UE UL a.mtime,UE UL a.ctime,UE UL a.ak,UE UL a.up,UF a.data,UG ea el ec],.bool b])∧UA w1 w':=by
 cases hg:S.get k with
 |none=>exact⟨dD,none,0,0,false,aA.nil w,by unfold Fs.aI;rw[hg];rfl,.inr ⟨rfl,rfl,rfl⟩,fun w1 hb=>gD (h.an hb) hg⟩
 |some a=>
  obtain⟨ea,el,ec,he,hc⟩:=fF h hg;exact⟨a,ea,el,ec,true,he,by unfold Fs.aI;rw[hg],.inl ⟨rfl,rfl⟩,hc⟩
theorem M8{N:Nat}(hk:ay S N)(hp:Pl S){x:Int}(hu:S.bl x≠x){a:An}{b:Bool}(h:S.get x=some a∧b=true∨(S.get x=none∧a=dD∧b=false)) :
  (S.root a.dev≠x→S.child x=x)∧(S.root a.dev=x→∃(k:Nat) (hkl:k<S.ds.length),a.dev=(k:Int)+1∧S.child x=S.ds[k].aB):=by
 rcases h with⟨h,-⟩|⟨h,rfl,-⟩
 ·refine⟨fun hr=>Dp h hr,fun hr=>?_⟩;have h1:x≠1:=by
   rintro rfl;exact hu (wT hk hp)
  obtain⟨xT,v,hv,hc⟩:=Dq hk hp h hr h1;have iG:=(hk.get h).1.dev.2;have hkl:(a.dev-1).toNat<S.ds.length:=by omega
  refine⟨(a.dev-1).toNat,hkl,by omega,?_⟩;rw[hc];unfold Fs.dev at hv;rw[if_pos (by omega),List.getElem?_eq_getElem hkl] at hv;injection hv with hv;rw[hv]
 ·refine⟨fun _=>Dr h,fun hr=>?_⟩;exfalso;have h0:S.root dD.dev=0:=by unfold Fs.root;rw[if_neg (fun h=>absurd h.1 (by decide))]
  rw[h0] at hr;rw[←hr,ux hk] at hu;exact hu rfl
theorem Gq{x:Int}{nm:ByteArray}{c:Int}(h:en (S.aI x) c=some nm){a:An}{b:Bool}(hg:S.get x=some a∧b=true∨(S.get x=none∧a=dD∧b=false)):b=true:=by
 rcases hg with⟨-,h⟩|⟨hg,-⟩
 ·exact h
 ·unfold Fs.aI at h;rw[hg] at h
  cases h
theorem Lf{N:Nat}(hk:ay S N)(hp:Pl S){x c:Int}{nm:ByteArray}(hu:S.bl x≠x)(h:en (S.aI (S.bl x)) c=some nm):(S.bl x).toNat<x.toNat:=by
 rcases lH hk hp hu with h0|⟨h1,h2,-,-⟩
 ·rw[h0,qm hk] at h
  cases h
 ·omega
theorem rY(h:bB w pw R S){N:Nat}(hk:ay S N)(hp:Pl S)(hl:S.ns.length≤100000)(no:Int) :
  Calls Tryz.prog 98 #[UH (some ⟨pw,0,none⟩),UE UL no] w fun e w'=>e=.returned (se (S.gI no))∧UA w w':=by
 have K9:=Ux (iy h hk.d1);obtain⟨g,cap,hv,hle,zd,hgl,hcd,-,-⟩:=h.lS hk.d1;have xT:=hk.d1;have hd8:=hk.d8;have HA:=Ux (fun w1 (av:UA w w1) x=>nI (h.an av) hk x);have uL:=Ux (fun w1 (av:UA w w1) x=>fK (h.an av) hk.d1 x);have HG:=Ux (fun w1 (av:UA w w1) x=>Ic (h.an av) x);have P':=Ux (pB.start hp no);have hb:=h.bD;rw[hv] at hb;have HB:=Ux hb;have HC:=Ux (fun k (hk:k<S.ds.length)=>(hcd k hk).c1);have HK:=Ux (ag hk hp);have HL:=Ux hl;obtain⟨m,hm⟩:∃m,S.ds.length=m:=⟨_,rfl⟩;have HM:=Ux hm;rw[hm] at HB hle xT hd8;have mixed:Tryz.prog.follows .mixedOrders=true:=by kernel_rfl
 have D5:(0:Int)<(m:Int):=by omega
 clear h hk hp hv hb hcd hm hl;go_enter Tryz.func98,Tryz.ntmps98;go_wp2_with fail;refine K9.o.mono ?_;rintro e w1 ⟨rfl,rfl⟩;go_wp2_with fail;refine(HA.o w (Below.refl _ _) no).mono ?_;rintro e w1 ⟨rfl,av⟩;have dX:=Ux av;clear av;go_wp2_with fail
 go_loopw [1,6,7] (fun t1 t6 t7 wr=>∃(x:Int) (l:List (List UInt8)),t1=UE UL x∧t7=UE UL (S.bl x)∧OS wr w.heap.size t6 l∧pB S no x l∧UA w wr) (fun t1 _ _ _=>(intOf t1).toNat)
 case atStart=>exact⟨no,[],rfl,rfl,OS.nil _ _,P'.o,dX.o⟩
 case round=>
  obtain⟨x,l,rfl,rfl,hO,hW,hbw⟩:=hrel;obtain⟨la,lc,rfl,hlc1,hlc2⟩:=hO.len;have HO:=Ux hO;have HW:=Ux hW;have vu:=Ux hbw;have hlen:l.length≤100000:=ae hW.lR HL.o;obtain⟨bc,bf,bz⟩:=(HB.o.an hbw).facts;clear hO hW;by_cases hx:S.bl x=x
  ·have px:(S.bl x != x)=false:=by simpa using hx
   have HX:=Ux hx;have HTop:=Ux (fun(h1:x=1)=>(show pB S no 1 l from h1▸HW.o).top HK.o.1 HK.o.2);have Qh:=Ux (fun(h1:x≠1)=>HW.o.other HK.o.1 HK.o.2 HX.o h1);have HSm:=Ux HW.o.small;generalize S.bl x=ab at px⊢;obtain⟨w0,hw0⟩:∃w0,w0=wr:=⟨_,rfl⟩;subst hw0;have hK0:=nn.of (vv.new w0);have aJ:=(UB w0).alloc (aa _) (.cells #[UH none,UG none 0 0] 117);clear hx hbw bc bf bz;go_upto_region 17 with fail;generalize w0.alloc _=X at hK0 aJ⊢;have HK0:=Ux hK0;have bC:=Ux aJ;clear hK0 aJ;go_wp2_with fail
   go_loopw [15] (fun t15 w3=>∃i:Int,-1≤i∧i<l.length∧t15=UE UL i∧nn w0.heap.size (jh (l.drop (i+1).toNat)) w3∧UA w0 w3) (fun t15 _=>(intOf t15+1).toNat)
   case atStart=>exact⟨(l.length:Int)-1,by omega,by omega,by go_num,by rw[show((l.length:Int)-1+1).toNat=l.length by omega,List.drop_length];exact HK0.o,bC.o⟩
   case round=>
    obtain⟨i,NZ,G7,rfl,wD,cl⟩:=hrel;have gn:=Ux wD;have Hb3:=Ux cl;clear wD cl;by_cases h0:0≤i
    ·obtain⟨j,rfl⟩:=Int.eq_ofNat_of_zero_le h0;have hjl:j<l.length:=by omega
     have hge:(0:Int)≤(j:Int):=h0;have KZ:OS wr w.heap.size (UG la l.length lc) l:=ew HO.o Hb3.o (aa _);obtain⟨g3,rfl,hg3,hcl⟩:=KZ.at' j hjl;have hsm:=HSm.o l[j] (List.getElem_mem hjl);have HQ:=Ux (show jh (l.drop ((j:Int)-1+1).toNat)=jh (l.drop ((j:Int)+1).toNat)++(47::l[j]) by
      rw[show((j:Int)-1+1).toNat=j by omega,show((j:Int)+1).toNat=j+1 by omega,List.drop_eq_getElem_cons hjl,GI])
     have SP:(jh (l.drop ((j:Int)+1).toNat)).length≤1000000000:=by
      have h1:=Ke (l:=l.drop ((j:Int)+1).toNat) (fun x hx=>HSm.o x (List.mem_of_mem_drop hx));have h2:(l.drop ((j:Int)+1).toNat).length≤l.length:=by rw[List.length_drop];omega
      omega
     have hqs:=dn l[j];have jY:=Ux (show(ByteArray.mk #[47]++str l[j]).data.toList=47::l[j] by
      rw[show ByteArray.mk #[47]=str [47] from rfl,kY,eO];rfl)
     have hss:(ByteArray.mk #[47]++str l[j]).size≤1000000000:=by
      rw[ByteArray.size_append];show 1+(str l[j]).size≤_;omega
     have Q7:=Ux (DK w0.heap.size (jh (l.drop ((j:Int)+1).toNat)) (ByteArray.mk #[47]++str l[j]) wr gn.o SP hss);rw[jY.o,←HQ.o] at Q7;have uH:¬9223372036854775807<1+(str l[j]).size:=by omega
     generalize str l[j]=q at hcl Q7 uH;clear h0 KZ hsm HQ SP hqs jY hss;go_wp2_with fail;refine Q7.o.mono ?_;rintro e w5 ⟨rfl,rQ,cK,-⟩;have oC:=Ux rQ;have Hb5:=Ux (Hb3.o.trans cK);clear rQ cK;go_wp2_with fail;go_roundw
     case measure=>simp[intOf]
     case rel=>exact⟨(j:Int)-1,by omega,by omega,by go_num,oC.o,Hb5.o⟩
    ·obtain rfl:i=-1:=by omega
     rw[show((-1:Int)+1).toNat=0 from rfl,List.drop_zero] at gn;have Hbb:=Ux (vu.o.trans (Hb3.o.mono vu.o.size));clear h0 NZ G7;by_cases h1:x=1
     ·have p1:(x != 1)=false:=by simpa using h1
      have pM:=Ux (HTop.o h1);have uE:=Ux (GJ w0.heap.size (jh l) wr gn.o);clear h1;by_cases fk:l=[]
      ·rw[if_pos fk] at pM;have hz:(((jh l).length:Int)==0)=true:=by rw[fk];rfl
       generalize ((jh l).length:Int)=ln at hz uE;clear fk;go_wp2_with fail;refine uE.o.mono ?_;rintro e w6 ⟨rfl,rfl⟩;go_wp2_with fail;go_ret2;rw[pM.o];exact⟨rfl,Hbb.o⟩
      ·rw[if_neg fk] at pM;have hne:jh l≠[]:=fun h=>fk ((Bi l).1 h);have hz:(((jh l).length:Int)==0)=false:=by
        simp only[beq_eq_false_iff_ne,ne_eq];intro h;exact hne (List.eq_nil_of_length_eq_zero (by omega))
       have Om:=Ux (Eo w0.heap.size (jh l) wr gn.o hne);generalize ((jh l).length:Int)=ln at hz uE;generalize str (jh l)=z at Om pM;clear fk hne;go_wp2_with fail;refine uE.o.mono ?_;rintro e w6 ⟨rfl,rfl⟩;go_wp2_with fail;refine Om.o.mono ?_;rintro e w7 ⟨rfl,lQ⟩;have Hb7:=Ux (Hbb.o.trans (lQ.mono vu.o.size));clear lQ;go_wp2_with fail;go_ret2;rw[pM.o];exact⟨rfl,Hb7.o⟩
     ·have p1:(x != 1)=true:=by simpa using h1
      have pM:=Ux (Qh.o h1);clear h1;go_wp2_with fail;go_ret2;rw[pM.o];exact⟨rfl,Hbb.o⟩
  ·have px:(S.bl x != x)=true:=by simpa using hx
   have HX:=Ux hx;obtain⟨up,hup⟩:∃y,S.bl x=y:=⟨_,rfl⟩;have uB:=Ux hup;rw[hup] at px⊢;obtain⟨a,ea,el,ec,ab,-,-,hga,hcg⟩:=HG.o wr hbw x;have Un:=Ux (hcg wr (Below.refl _ _));have wY:=Ux (M8 HK.o.1 HK.o.2 hx hga);clear hcg hga hx hup;go_wp2_with fail;refine Un.o.mono ?_;rintro e w2 ⟨rfl,aY⟩;have aJ:=ao (ar vu.o aY) (.cells #[UE UL a.no,UE UL a.dev,UE UL a.kind,UE UL a.mode,UE UL a.uid,UE UL a.gid,UE UL a.mtime,UE UL a.ctime,UE UL a.ak,UE UL a.up,UF a.data,UG ea el ec] 149);have cl:=ao aY (.cells #[UE UL a.no,UE UL a.dev,UE UL a.kind,UE UL a.mode,UE UL a.uid,UE UL a.gid,UE UL a.mtime,UE UL a.ctime,UE UL a.ak,UE UL a.up,UF a.data,UG ea el ec] 149);have hX:=ax.new w2 #[UE UL a.no,UE UL a.dev,UE UL a.kind,UE UL a.mode,UE UL a.uid,UE UL a.gid,UE UL a.mtime,UE UL a.ctime,UE UL a.ak,UE UL a.up,UF a.data,UG ea el ec] 149;clear aY Un bc bf bz hbw;go_upto_region 8 with fail;generalize w2.alloc _=X at aJ hX cl⊢;have bC:=Ux aJ;have K8:=Ux (HO.o.tF cl);obtain⟨xc,xf,xz⟩:=hX.facts;obtain⟨bc,bf,bz⟩:=(HB.o.an aJ).facts;have HRx:=Ux (uL.o X aJ a.dev);clear cl hX aJ HO vu;obtain⟨ch,hch⟩:∃y,S.child x=y:=⟨_,rfl⟩;have HChe:=Ux hch;rw[hch] at wY;clear hch
   go_cut [41] from 21 to 78 (fun t41 wx=>t41=.bool (S.root a.dev==x)∧wx=X)
   case first=>
    have hgoal:∀z:Bool,(Value.bool z=Value.bool z∧X=X):=fun _=>⟨rfl,rfl⟩;go_wp2_with fail;refine HRx.o.mono ?_;rintro e w3 ⟨rfl,rfl⟩;go_wp2_with fail;go_meet;exact⟨rfl,rfl⟩
   case rest=>
   obtain⟨rfl,rfl⟩:=hcut
   go_step
   go_cut [1] from 21 to 78 (fun t1 wx=>t1=UE UL ch∧UA wc wx)
   case first=>
    by_cases h3:S.root a.dev=x
    ·have q3:(S.root a.dev==x)=true:=by simpa using h3
     obtain⟨j,hjl,hj,hco⟩:=wY.o.2 h3;have cc:=(bC.o.cell (p:=⟨g,j*6+1,none⟩) hgl).trans (HC.o j hjl);have Ml:(j:Int)<(m:Int):=by have:=HM.o;omega
     have pM:=Ux hco;generalize S.ds[j].aB=ov at cc pM;have SH:g<wc.heap.size:=Nat.lt_of_lt_of_le hgl bC.o.size;have hwr1:IntKind.i64.wrap ((j:Int)+1-1)=(j:Int):=by simp[IntKind.wrap,IntKind.bits,IntKind.signed];omega
     have hwr2:IntKind.i64.wrap (j:Int)=(j:Int):=by simp[IntKind.wrap,IntKind.bits,IntKind.signed];omega
     have QL:(0:Int)≤(j:Int)∧((j:Int)).toNat=j:=by omega
     obtain⟨hk1',hk3'⟩:=QL;generalize (S.root a.dev==x)=dd at q3⊢;subst q3;rw[hj] at xc;clear h3 hjl hco hj;go_wp2_with fail
     go_quiet (fail)
     go_wp2_with fail;go_meet;exact⟨by rw[pM.o],below_drewN (Below.refl _ _) _⟩
    ·have q3:(S.root a.dev==x)=false:=by simpa using h3
     have pM:=Ux (wY.o.1 h3);generalize (S.root a.dev==x)=dd at q3⊢;subst q3;clear h3;go_wp2_with fail;go_meet;exact⟨by rw[pM.o],Below.refl _ _⟩
   case rest=>
   obtain⟨rfl,hbc⟩:=hcut;have HBc:=Ux (ar bC.o hbc);have Rh:=Ux (K8.o.tF hbc);obtain⟨a2,fa,fl,fc,b2,hents,hee,SJ,hcg⟩:=HG.o wc HBc.o up;have Un:=Ux (hcg wc (Below.refl _ _));have jW:=Ux (fun hn=>HW.o.fail HK.o.1 HK.o.2 HX.o hn);have Kz:=Ux (fun s hn=>HW.o.more HK.o.1 HK.o.2 HX.o (s:=s) hn);have Kv:=Ux (fun nm hn=>Gq (S:=S) (x:=up) (nm:=nm) (c:=ch) hn SJ);have KC:=Ux (fun s hn=>Lf HK.o.1 HK.o.2 (c:=ch) (nm:=s) HX.o hn);rw[uB.o,←hee] at KC;rw[HChe.o,uB.o,←hee] at jW Kz;rw[←hee] at Kv;generalize a2.au=es at hents jW Kz Kv KC;have NI:=Ux hents;clear hbc hcg hents hee SJ xc xf xz bc bf bz bC K8 HRx;obtain⟨bc,bf,bz⟩:=(HB.o.an HBc.o).facts;go_wp2_with fail;refine Un.o.mono ?_;rintro e w4 ⟨rfl,dM⟩;have eT:=ao (ar HBc.o dM) (.cells #[UE UL a2.no,UE UL a2.dev,UE UL a2.kind,UE UL a2.mode,UE UL a2.uid,UE UL a2.gid,UE UL a2.mtime,UE UL a2.ctime,UE UL a2.ak,UE UL a2.up,UF a2.data,UG fa fl fc] 149);have cK:=ao dM (.cells #[UE UL a2.no,UE UL a2.dev,UE UL a2.kind,UE UL a2.mode,UE UL a2.uid,UE UL a2.gid,UE UL a2.mtime,UE UL a2.ctime,UE UL a2.ak,UE UL a2.up,UF a2.data,UG fa fl fc] 149);have hY:=ax.new w4 #[UE UL a2.no,UE UL a2.dev,UE UL a2.kind,UE UL a2.mode,UE UL a2.uid,UE UL a2.gid,UE UL a2.mtime,UE UL a2.ctime,UE UL a2.ak,UE UL a2.up,UF a2.data,UG fa fl fc] 149;clear dM Un;go_upto_region 11 with fail;generalize w4.alloc _=Y at eT hY cK⊢;have nk:=Ux eT;have HOY:=Ux (Rh.o.tF cK);obtain⟨yc,yf,yz⟩:=hY.facts;have vn:=Ux (Gr es fa fl fc ch Y (NI.o.an cK));unfold se at vn;clear cK hY eT HBc Rh NI
   cases ho:en es ch with
   |none=>
    rw[ho] at vn;have pM:=Ux (show S.gI no=none from jW.o ho);simp only[Option.getD_none,Option.isSome_none] at vn;clear ho
    cases b2 with
    |false=>
     go_wp2_with fail;refine vn.o.mono ?_;rintro e w6 ⟨rfl,fp⟩;have jJ:=Ux (ar nk.o fp);clear fp yc yf yz;go_wp2_with fail;go_ret2;rw[pM.o];exact⟨rfl,jJ.o⟩
    |true=>
     go_wp2_with fail;refine vn.o.mono ?_;rintro e w6 ⟨rfl,fp⟩;have jJ:=Ux (ar nk.o fp);clear fp yc yf yz;go_wp2_with fail;go_ret2;rw[pM.o];exact⟨rfl,jJ.o⟩
   |some nm=>
    rw[ho] at vn;simp only[Option.getD_some,Option.isSome_some] at vn;obtain rfl:b2=true:=Kv.o nm ho;have HMr:=Ux (Kz.o nm ho);have Hr:=Ux (KC.o nm ho);clear ho;go_wp2_with fail;refine vn.o.mono ?_;rintro e w6 ⟨rfl,fp⟩;have MS:=ar nk.o fp;obtain⟨g2,cap2,W,hrun,hO7,hB7⟩:=(HOY.o.tF fp).app nm.data.toList (by omega) MS.size;rw[so] at hrun;have HR:=Ux hrun;have NB:=Ux hO7;have pN:=Ux (MS.trans hB7);have HAu:=Ux (HA.o W pN.o up);clear fp yc yf yz hrun hO7 hB7 MS;go_wp2_with (at_builtin;refine aT rfl rfl rfl rfl HR.o ?_);refine HAu.o.mono ?_;rintro e w8 ⟨rfl,rl⟩;have HB8:=Ux (ar pN.o rl);have HO8:=Ux (NB.o.tF rl);clear rl;go_wp2_with fail;go_roundw
    case measure=>exact Hr.o
    case rel=>exact⟨up,l++[nm.data.toList],rfl,rfl,HO8.o,HMr.o.1,HB8.o⟩
end
end
end Go.Proofs.YtabbjaomlmnnhaaGreat
