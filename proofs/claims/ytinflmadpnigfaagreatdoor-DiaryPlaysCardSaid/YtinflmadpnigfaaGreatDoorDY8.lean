import Derived.Deep.CutBlock
import Derived.Deep.DeepCutAuto
import Derived.RegionTactic
import Derived.BigRegion
import Derived.Deep.QuietTactic
import Derived.BigQuiet
import Derived.WalkSmall
import Derived.Test.YtinflmadpnigfaaGreatDoorDY6
import Derived.Test.YtinflmadpnigfaaGreatDoorDY7
import Derived.Test.YtinflmadpnigfaaGreatDoorDY5
import Derived.Test.YtinflmadpnigfaaGreatDoorDY3
set_option linter.unusedVariables false
set_option linter.unusedSimpArgs false
set_option maxRecDepth 100000
set_option maxHeartbeats 16000000
namespace Go.Proofs.YtinflmadpnigfaaGreatDoor
section
open Go.RowKit
structure Rf.ct(R R':Rf):Prop where
 now:R'.now=R.now
 oS:R'.oS=R.oS
 pl:R'.pl=R.pl
 dd:R'.dd=R.dd
theorem Rf.ct.refl(R:Rf):Rf.ct R R:=⟨rfl,rfl,rfl,rfl⟩
theorem Rf.ct.trans{A B C:Rf}(h:Rf.ct A B)(k:Rf.ct B C):Rf.ct A C:=⟨k.now.trans h.now,k.oS.trans h.oS,k.pl.trans h.pl,k.dd.trans h.dd⟩
theorem MS{S:Fs}(hn:gY S){G:List Gn}(hG:S.ns=G.map (·.a)){i:Nat}(hi:i<G.length){a:An}(hno:G[i].a.no=a.no){y:Gn}(hy:y.a=a):(S.set a).ns=(G.set i y).map (·.a):=by
 have hr:=hn.hH;rw[hG] at hr;show(S.ns.map _)=_;rw[hG];apply List.ext_getElem
 ·simp
 ·intro j h1 h2;have hj:j<G.length:=by simpa using h1
  simp only[List.getElem_map,List.getElem_set];by_cases hij:i=j
  ·subst hij;rw[if_pos rfl,hno];simp[hy]
  ·rw[if_neg hij,if_neg];have key:=List.pairwise_iff_getElem.1 hr;simp only[List.length_map,List.getElem_map] at key;simp only[beq_iff_eq];rcases Nat.lt_or_gt_of_ne hij with h|h
   ·have:=key i j (by simpa using hi) (by simpa using hj) h;omega
   ·have:=key j i (by simpa using hj) (by simpa using hi) h;omega
theorem Jc(w:World)(g o:Nat)(v0 v1 v2 v3 v4 v5 v6 v7 v8 v9 v10 v11:Value):putRow w g o [v0,v1,v2,v3,v4,v5,v6,v7,v8,v9,v10,v11]=(((((((((((w.setCell ⟨g,o,none⟩ v0).setCell ⟨g,o+1,none⟩ v1).setCell ⟨g,o+2,none⟩ v2).setCell ⟨g,o+3,none⟩ v3).setCell ⟨g,o+4,none⟩ v4).setCell ⟨g,o+5,none⟩ v5).setCell ⟨g,o+6,none⟩ v6).setCell ⟨g,o+7,none⟩ v7).setCell ⟨g,o+8,none⟩ v8).setCell ⟨g,o+9,none⟩ v9).setCell ⟨g,o+10,none⟩ v10).setCell ⟨g,o+11,none⟩ v11:=rfl
section
variable{w w':World}{pf:Nat}{R:Rf}{S:Fs}
theorem cT{g:Nat}{e:TypeId}(hk:∃cur,w.heap[g]?=some (.cells cur e (0,0))){x:Nat}{vs:Array Value}{T:TypeId}(hx:au w x vs T)(hT:T≠e):x≠g:=by
 rintro rfl;obtain⟨cur,hc⟩:=hk;unfold au at hx;rw[hx] at hc;injection hc with hc;injection hc with _ hc;exact hT hc
theorem aE.put(h:aE w pf R S)(hn:gY S){g cap:Nat}(hv:R.nv=.slice (some ⟨g,0,none⟩) R.G.length cap){i:Nat}(hi:i<R.G.length){a:An}{ea:Option Addr}{el ec:Nat}(hno:R.G[i].a.no=a.no)(he:aA w ea el ec a.aB) :
  aE (putRow w g (i*12) [.int .i64 a.no,.int .i64 a.dev,.int .i64 a.kind,.int .i64 a.mode,.int .i64 a.uid,.int .i64 a.gid,.int .i64 a.mtime,.int .i64 a.ctime,.int .i64 a.an,.int .i64 a.up,.string a.data,.slice ea el ec]) pf {R with G:=R.G.set i ⟨a,ea,el,ec,0⟩} (S.set a)∧Mod (R.F pf) w (putRow w g (i*12) [.int .i64 a.no,.int .i64 a.dev,.int .i64 a.kind,.int .i64 a.mode,.int .i64 a.uid,.int .i64 a.gid,.int .i64 a.mtime,.int .i64 a.ctime,.int .i64 a.an,.int .i64 a.up,.string a.data,.slice ea el ec]):=by
 have hgb:R.nv.ownBlock=some g:=by rw[hv];rfl
 have hm:=kT (g:=g) [.int .i64 a.no,.int .i64 a.dev,.int .i64 a.kind,.int .i64 a.mode,.int .i64 a.uid,.int .i64 a.gid,.int .i64 a.mtime,.int .i64 a.ctime,.int .i64 a.an,.int .i64 a.up,.string a.data,.slice ea el ec] w (i*12);have hM:Mod (R.F pf) w (putRow w g (i*12) [.int .i64 a.no,.int .i64 a.dev,.int .i64 a.kind,.int .i64 a.mode,.int .i64 a.uid,.int .i64 a.gid,.int .i64 a.mtime,.int .i64 a.ctime,.int .i64 a.an,.int .i64 a.up,.string a.data,.slice ea el ec]):=hm.mono (fun k hk=>.inr (.inl (by rw[hk];exact hgb)));obtain⟨-,hcur⟩:=aT h.sj hgb;have hst:aL (R.F pf) (R.F pf) w (putRow w g (i*12) [.int .i64 a.no,.int .i64 a.dev,.int .i64 a.kind,.int .i64 a.mode,.int .i64 a.uid,.int .i64 a.gid,.int .i64 a.mtime,.int .i64 a.ctime,.int .i64 a.an,.int .i64 a.up,.string a.data,.slice ea el ec]):=aL.dH hM;refine⟨⟨h.bd.mod hm (cT hcur h.bd (by decide)),?_,bq h.eI hm (fun k hk e=>?_),MS hn h.ns hi hno rfl,fun x hx=>?_⟩,hM⟩
 ·show World.ownsRow _ 0 99 12 R.nv (R.G.set i _).length ((R.G.set i _).flatMap Gn.cs);rw[List.length_set];have h0:=h.sj;rw[hv] at h0⊢;exact sF (enc:=Gn.cs) (by omega) Gn.bt h0 i hi ⟨a,ea,el,ec,0⟩
 ·obtain⟨-,cur2,eh⟩:=aT h.eI e;rw[hk] at eh;exact cT hcur (show au w g cur2 208 from eh) (by decide) rfl
 ·rcases List.mem_or_eq_of_mem_set hx with hx|rfl
  ·exact(h.aB x hx).rf h hst
  ·exact he.rf h hst
theorem iL(h:aE w pf R S)(hn:gY S){a:An}{ea:Option Addr}{el ec:Nat}(he:aA w ea el ec a.aB){b:An}(hb:S.get a.no=some b) :
  Calls Tryz.prog 115 #[.pointer (some ⟨pf,0,none⟩),a.v ea el ec] w fun e w'=>e=.returned (.tuple #[])∧∃R',aE w' pf R' (S.set a)∧aL (R.F pf) (R'.F pf) w w'∧Rf.ct R R'∧R'.dv=R.dv:=by
 rcases qF h a.no with⟨i,hi,hp,-,hno⟩|⟨-,vB⟩
 ·have bO:=al (Uq w) (.cells #[.int .i64 a.no,.int .i64 a.dev,.int .i64 a.kind,.int .i64 a.mode,.int .i64 a.uid,.int .i64 a.gid,.int .i64 a.mtime,.int .i64 a.ctime,.int .i64 a.an,.int .i64 a.up,.string a.data,.slice ea el ec] 99);have nD:=au.new w #[.int .i64 a.no,.int .i64 a.dev,.int .i64 a.kind,.int .i64 a.mode,.int .i64 a.uid,.int .i64 a.gid,.int .i64 a.mtime,.int .i64 a.ctime,.int .i64 a.an,.int .i64 a.up,.string a.data,.slice ea el ec] 99;have Iw:=Um (xY (h.ak ((Below.refl _ w).alloc (aa _) (.cells #[.int .i64 a.no,.int .i64 a.dev,.int .i64 a.kind,.int .i64 a.mode,.int .i64 a.uid,.int .i64 a.gid,.int .i64 a.mtime,.int .i64 a.ctime,.int .i64 a.an,.int .i64 a.up,.string a.data,.slice ea el ec] 99))) a.no);rw[hp] at Iw;obtain⟨g,cap,hnv,hcap,hcap2,hgl,hc,hfz,cur,hcur⟩:=h.cm (by omega);have HP:=Um (fun w1 (hb:Up w w1)=>(h.ak hb).put hn hnv hi hno (he.ak hb));obtain⟨pc,-,pz⟩:=h.bd.facts;rw[hnv] at pc;have LA:=Um hcur;obtain⟨n,jj⟩:∃n,R.G.length=n:=⟨_,rfl⟩;rw[jj] at pc hcap;have hin:i<n:=by omega
  have nO:=Um nD;have bP:=Um bO;have mixed:Tryz.prog.follows .mixedOrders=true:=by kernel_rfl
  obtain⟨y,y1,y2,y3,c0,c1,c2,c3,c4,c5,c6,c7,c8,c9,c10,c11⟩:∃(y:An) (y1:Option Addr) (y2 y3:Nat),NdC w g (i*12) y y1 y2 y3:=⟨_,_,_,_,hc i hi⟩;have HC:=Um (fun w1 (hb:Up w w1)=>ag (hb.cell (p:=⟨g,i*12,none⟩) hgl) (fun j=>hb.cell (p:=⟨g,i*12+j,none⟩) hgl));unfold An.v;clear h hn he hb hp hnv hc hi hno jj nD bO hcur hfz;go_enter Tryz.func115,Tryz.ntmps115;have nD:=nO.o;obtain⟨qc,qf,qz⟩:=nD.facts;clear nD;go_wp2_with fail;refine Iw.o.mono ?_;rintro e w1 ⟨rfl,ar⟩;have Dm:=nO.o.ak ar;have aD:=ao bP.o ar;obtain⟨d0,dd⟩:=HC.o w1 aD;rw[←d0] at c0;rw[←dd 1] at c1;rw[←dd 2] at c2;rw[←dd 3] at c3;rw[←dd 4] at c4;rw[←dd 5] at c5;rw[←dd 6] at c6;rw[←dd 7] at c7;rw[←dd 8] at c8;rw[←dd 9] at c9;rw[←dd 10] at c10;rw[←dd 11] at c11;have A9:g<w1.heap.size:=Nat.lt_of_lt_of_le hgl aD.size;have hfz1:=(LA.o.ak aD).frozen;have pc2:=fun i=>(aD.cell (p:=⟨pf,i,none⟩) pz).trans (pc i);have cV:=Um aD;clear qc qf qz;obtain⟨qc,qf,qz⟩:=Dm.facts;clear Dm ar aD d0 dd pc;go_wp2_with fail;refine ay 7 mixed (by kernel_rfl) (show bV _ from by repeat (first|exact cZ|refine cY ?_|refine cw ?_|refine cJ ?_)) ?_;simp only[List.take_succ_cons,List.take_zero,List.drop_succ_cons,List.drop_zero]
  repeat still_step
  refine wpStill_nil ?_;go_wp2_with fail
  go_end0
  obtain⟨hR,hM⟩:=HP.o _ cV.o;rw[Jc] at hR hM;exact⟨rfl,_,hR.ak ((Below.refl _ _).drew),(aL.aq cV.o).trans (aL.dH hM.drew),⟨rfl,rfl,rfl,rfl⟩,rfl⟩
 ·rw[hb] at vB;cases vB
end
end
section
open Go.RowKit
theorem Gl:(Tryz.prog.info? 99).map (fun i=>(i.zero,i.size,i.bytes))=some (some (.agg #[.int .i64 0,.int .i64 0,.int .i64 0,.int .i64 0,.int .i64 0,.int .i64 0,.int .i64 0,.int .i64 0,.int .i64 0,.int .i64 0,.string ByteArray.empty,.slice none 0 0]),12,120):=by kernel_rfl
theorem FV:(Tryz.prog.info? 208).map (fun i=>(i.zero,i.size,i.bytes))=some (some (.agg #[.int .i64 0,.int .i64 0,.int .i64 0,.int .i64 0,.int .i64 0,.int .i64 0]),6,48):=by kernel_rfl
section
variable{w w':World}{pf:Nat}{R:Rf}{S:Fs}
theorem aE.aside(h:aE w pf R S){B:Nat}{vs:Array Value}{T:TypeId}(hB:au w B vs T)(hF:¬R.F pf B)(hT:T≠271)(i:Nat)(v:Value):aE (w.setCell ⟨B,i,none⟩ v) pf R S:=by
 have hm:Mod (fun k=>k=B) w (w.setCell ⟨B,i,none⟩ v):=(Mod.refl (fun k=>k=B) w).setCell (a:=⟨B,i,none⟩) (.inl rfl) v;refine h.eB (fun k hk=>hm.block k (h.lt hk) (fun e=>hF (e▸hk))) (fun b cur hc=>hm.block b (Array.getElem?_eq_some_iff.1 hc).1 (fun e=>?_)) hm.size;subst e;unfold au at hB;rw[hB] at hc;injection hc with hc;injection hc with _ hc;exact hT hc
theorem aE.Mo(h:aE w pf R S)(v:Int):aE (w.setCell ⟨pf,2,none⟩ (.int .i64 v)) pf R {S with last:=v}∧Mod (R.F pf) w (w.setCell ⟨pf,2,none⟩ (.int .i64 v)):=by
 have hm:Mod (fun k=>k=pf) w (w.setCell ⟨pf,2,none⟩ (.int .i64 v)):=(Mod.refl (fun k=>k=pf) w).setCell (a:=⟨pf,2,none⟩) (.inl rfl) _;have hM:Mod (R.F pf) w (w.setCell ⟨pf,2,none⟩ (.int .i64 v)):=hm.mono (fun k hk=>.inl hk);refine⟨⟨h.bd.set 2 _,bq h.sj hm (fun k hk e=>?_),bq h.eI hm (fun k hk e=>?_),h.ns,fun x hx=>(h.aB x hx).rf h (aL.dH hM)⟩,hM⟩
 ·obtain⟨-,hc⟩:=aT h.sj e;exact cT hc h.bd (by decide) hk.symm
 ·obtain⟨-,hc⟩:=aT h.eI e;exact cT hc h.bd (by decide) hk.symm
theorem aE.appN(h:aE w pf R S)(hl:R.G.length≤1000000)(ad:Addr)(y:Gn)(had:∀j u,(Gn.cs y)[j]?=some u→w.cell? (ad.add j)=some u)(he:aA w y.ea y.el y.ec y.a.aB) :
  ∃g cap W,(Builtin.append_ #[73,73] 73 #[R.nv,.slice (some ad) 1 1]).run Tryz.prog w=.ok (.slice (some ⟨g,0,none⟩) (R.G.length+1) cap) W∧
   aE (W.setCell ⟨pf,0,none⟩ (.slice (some ⟨g,0,none⟩) (R.G.length+1) cap)) pf {R with nv:=.slice (some ⟨g,0,none⟩) (R.G.length+1) cap,G:=R.G++[y]} {S with ns:=S.ns++[y.a]}∧
   aL (R.F pf) (Rf.F {R with nv:=.slice (some ⟨g,0,none⟩) (R.G.length+1) cap,G:=R.G++[y]} pf) w (W.setCell ⟨pf,0,none⟩ (.slice (some ⟨g,0,none⟩) (R.G.length+1) cap))∧
   au W pf #[R.nv,R.dv,.int .i64 S.last,.int .i64 R.now,R.oS,R.pl,R.dd] 76∧Mod (fun k=>R.nv.ownBlock=some k) w W:=by
 obtain⟨i0,hi,iU,gx,fT⟩:=info_parts Gl;obtain⟨g,cap,W,h1,h2,h3,h4⟩:=cX (73) Tryz.underlying73 hi iU gx fT rfl (by omega) h.sj ad 1 1 (Gn.cs y) rfl had (by intro u hu;simp[Gn.cs] at hu;rcases hu with rfl|rfl|rfl|rfl|rfl|rfl|rfl|rfl|rfl|rfl|rfl|rfl<;>rfl) (by omega) (by unfold maxLen;omega) (by omega) (Nat.zero_le _);have hM:Mod (R.F pf) w W:=h3.mono (fun k hk=>.inr (.inl hk));have lS:au W pf #[R.nv,R.dv,.int .i64 S.last,.int .i64 R.now,R.oS,R.pl,R.dd] 76:=h.bd.mod h3 (fun hk=>by
  obtain⟨-,hc⟩:=aT h.sj hk;exact cT hc h.bd (by decide) rfl)
 have hpg:pf≠g:=by
  rintro rfl;rcases h4 with h4|h4
  ·obtain⟨-,hc⟩:=aT h.sj h4;exact cT hc h.bd (by decide) rfl
  ·have:=h.bd.lt;omega
 have sm:aL (R.F pf) (R.F pf) w (W.setCell ⟨pf,0,none⟩ (.slice (some ⟨g,0,none⟩) (R.G.length+1) cap)):=aL.dH (hM.setCell (.inl (.inl rfl)) _);have hmp:Mod (fun k=>k=pf) W (W.setCell ⟨pf,0,none⟩ (.slice (some ⟨g,0,none⟩) (R.G.length+1) cap)):=(Mod.refl (fun k=>k=pf) W).setCell (a:=⟨pf,0,none⟩) (.inl rfl) _;refine⟨g,cap,W,h1,⟨lS.set 0 _,?_,?_,by rw[h.ns,List.map_append];rfl,fun x hx=>?_⟩,⟨sm.mod,fun k hk=>?_⟩,lS,h3⟩
 ·show World.ownsRow _ 0 99 12 _ (R.G++[y]).length ((R.G++[y]).flatMap Gn.cs);rw[List.length_append,List.length_singleton,List.flatMap_append,List.flatMap_singleton];refine bq h2 hmp (fun k hk e=>?_);subst hk;simp only[Value.ownBlock,Option.some.injEq] at e;exact hpg e.symm
 ·refine bq (bq h.eI h3 (fun k hk e=>?_)) hmp (fun k hk e=>?_)
  ·obtain⟨-,hc⟩:=aT h.sj hk;obtain⟨-,cur,eh⟩:=aT h.eI e;exact cT hc (show au w k cur 208 from eh) (by decide) rfl
  ·obtain⟨-,hc⟩:=aT h.eI e;exact cT hc h.bd (by decide) hk.symm
 ·rcases List.mem_append.1 hx with hx|hx
  ·exact(h.aB x hx).rf h sm
  ·rw[List.mem_singleton] at hx;subst hx;exact he.rf h sm
 ·rcases hk with hk|hk|hk
  ·exact .inl (.inl hk)
  ·simp only[Value.ownBlock,Option.some.injEq] at hk;subst hk;rcases h4 with h4|h4
   ·exact .inl (.inr (.inl h4))
   ·exact .inr (by omega)
  ·exact .inl (.inr (.inr hk))
theorem Au(h:aE w pf R S){a:An}{ea:Option Addr}{el ec:Nat}(he:aA w ea el ec a.aB)(dL:0≤S.last)(qk:S.last≤1000000)(hgl:R.G.length≤1000000) :
  Calls Tryz.prog 215 #[.pointer (some ⟨pf,0,none⟩),a.v ea el ec] w fun e w'=>e=.returned (.int .i64 (S.last+1))∧∃R',aE w' pf R' (S.add a)∧aL (R.F pf) (R'.F pf) w w'∧Rf.ct R R'∧R'.dv=R.dv:=by
 obtain⟨h1,hM1⟩:=h.Mo (S.last+1);have ar:=(Below.refl _ (w.setCell ⟨pf,2,none⟩ (.int .i64 (S.last+1)))).alloc (aa _) (.cells #[.int .i64 (S.last+1),.int .i64 a.dev,.int .i64 a.kind,.int .i64 a.mode,.int .i64 a.uid,.int .i64 a.gid,.int .i64 a.mtime,.int .i64 a.ctime,.int .i64 a.an,.int .i64 a.up,.string a.data,.slice ea el ec] 99);have h2:=h1.ak ar;have zj:=au.new (w.setCell ⟨pf,2,none⟩ (.int .i64 (S.last+1))) #[.int .i64 (S.last+1),.int .i64 a.dev,.int .i64 a.kind,.int .i64 a.mode,.int .i64 a.uid,.int .i64 a.gid,.int .i64 a.mtime,.int .i64 a.ctime,.int .i64 a.an,.int .i64 a.up,.string a.data,.slice ea el ec] 99;rw[World.size_setCell] at zj;have hne:pf≠w.heap.size:=fun e=>by have:=h.bd.lt;omega
 have hst:=hM1.trans (Mod.aq ar);have o3:=he.rf h (aL.dH hst);have hF:¬R.F pf w.heap.size:=fun hk=>absurd (h.lt hk) (by omega);have hsa:S.add a={S with ns:=S.ns++[{a with no:=S.last+1}],last:=S.last+1}:=rfl;rw[hsa];obtain⟨pc,pf1,pz⟩:=h.bd.facts;obtain⟨na,nc,hnv,hnc1,hnc2⟩:=h.wN;have mixed:Tryz.prog.follows .mixedOrders=true:=by kernel_rfl
 have lZ:=Um h2;have qq:=Um zj;have LV:=Um hst;have cq:=Um o3;have J7:=hgl;unfold An.v;clear he h1 hM1 ar h2 zj hst o3 hsa;have pR:=au.new w #[.int .i64 a.no,.int .i64 a.dev,.int .i64 a.kind,.int .i64 a.mode,.int .i64 a.uid,.int .i64 a.gid,.int .i64 a.mtime,.int .i64 a.ctime,.int .i64 a.an,.int .i64 a.up,.string a.data,.slice ea el ec] 99;obtain⟨qc,qf,qz⟩:=pR.facts;clear pR h;go_enter Tryz.func215,Tryz.ntmps215;go_upto_region 3 with fail;generalize (w.setCell ⟨pf,2,none⟩ (.int .i64 (S.last+1))).alloc (.cells #[.int .i64 (S.last+1),.int .i64 a.dev,.int .i64 a.kind,.int .i64 a.mode,.int .i64 a.uid,.int .i64 a.gid,.int .i64 a.mtime,.int .i64 a.ctime,.int .i64 a.an,.int .i64 a.up,.string a.data,.slice ea el ec] 99)=X at lZ qq LV cq⊢;clear pc pf1 pz qc qf qz;have hXz:=LV.o.size;have bJ:Up X (X.alloc (.cells #[.int .i64 (S.last+1),.int .i64 a.dev,.int .i64 a.kind,.int .i64 a.mode,.int .i64 a.uid,.int .i64 a.gid,.int .i64 a.mtime,.int .i64 a.ctime,.int .i64 a.an,.int .i64 a.up,.string a.data,.slice ea el ec] 99)).drew:=((Below.refl _ X).alloc (aa _) _).drew;obtain⟨g,cap,Y,hrun,qm,sq,et,QV⟩:=(lZ.o.ak bJ).appN hgl ⟨X.heap.size,0,none⟩ ⟨{a with no:=S.last+1},ea,el,ec,0⟩ (World.news_of_block ((au.new X #[.int .i64 (S.last+1),.int .i64 a.dev,.int .i64 a.kind,.int .i64 a.mode,.int .i64 a.uid,.int .i64 a.gid,.int .i64 a.mtime,.int .i64 a.ctime,.int .i64 a.an,.int .i64 a.up,.string a.data,.slice ea el ec] 99).drew)) (cq.o.ak bJ);have zj:=qq.o;obtain⟨xc,xf,xz⟩:=lZ.o.bd.facts;obtain⟨yc,yf,yz⟩:=et.facts;obtain⟨qc,qf,qz⟩:=zj.facts;have hq3:au Y w.heap.size #[.int .i64 (S.last+1),.int .i64 a.dev,.int .i64 a.kind,.int .i64 a.mode,.int .i64 a.uid,.int .i64 a.gid,.int .i64 a.mtime,.int .i64 a.ctime,.int .i64 a.an,.int .i64 a.up,.string a.data,.slice ea el ec] 99:=(zj.ak bJ).mod QV (fun hk=>hF (.inr (.inl hk)));obtain⟨zc,zf,zz⟩:=hq3.facts;have HWY:=Um qm;have Ir:=Um (((aL.dH LV.o).trans (aL.aq bJ)).trans sq);rw[hnv] at xc yc hrun;clear qm sq QV et zj hq3;have vH:=Um hrun;clear hrun
 go_cut [] (fun wx=>wx=Y.setCell ⟨pf,0,none⟩ (.slice (some ⟨g,0,none⟩) (R.G.length+1) cap))
 case first=>
  have hrun:=vH.o
  go_region_law_o (refine kI rfl rfl rfl rfl hrun ?_)
  all_goals
   go_wp2_with fail;go_meet;rfl
 case rest=>
  subst hcut;clear xc xf xz yc yf yz qc qf qz;have Su:¬w.heap.size=pf:=fun e=>hne e.symm;go_wp2_with fail;go_ret;exact⟨rfl,_,HWY.o,Ir.o,⟨rfl,rfl,rfl,rfl⟩,rfl⟩
end
end
section
open Go.RowKit
section
variable{w w':World}{pf:Nat}{R:Rf}{S:Fs}
theorem aE.appD(h:aE w pf R S)(hl:S.ds.length≤1000)(ad:Addr)(y:Dv)(had:∀j u,(Dv.cs y)[j]?=some u→w.cell? (ad.add j)=some u) :
  ∃g cap W,(Builtin.append_ #[74,74] 74 #[R.dv,.slice (some ad) 1 1]).run Tryz.prog w=.ok (.slice (some ⟨g,0,none⟩) (S.ds.length+1) cap) W∧
   aE (W.setCell ⟨pf,1,none⟩ (.slice (some ⟨g,0,none⟩) (S.ds.length+1) cap)) pf {R with dv:=.slice (some ⟨g,0,none⟩) (S.ds.length+1) cap} {S with ds:=S.ds++[y]}∧
   aL (R.F pf) (Rf.F {R with dv:=.slice (some ⟨g,0,none⟩) (S.ds.length+1) cap} pf) w (W.setCell ⟨pf,1,none⟩ (.slice (some ⟨g,0,none⟩) (S.ds.length+1) cap))∧
   au W pf #[R.nv,R.dv,.int .i64 S.last,.int .i64 R.now,R.oS,R.pl,R.dd] 76∧Mod (fun k=>R.dv.ownBlock=some k) w W:=by
 obtain⟨i0,hi,iU,gx,fT⟩:=info_parts FV;obtain⟨g,cap,W,h1,h2,h3,h4⟩:=cX (74) Tryz.underlying74 hi iU gx fT rfl (by omega) h.eI ad 1 1 (Dv.cs y) rfl had (by intro u hu;simp[Dv.cs] at hu;rcases hu with rfl|rfl|rfl|rfl|rfl|rfl<;>rfl) (by omega) (by unfold maxLen;omega) (by omega) (Nat.zero_le _);have hM:Mod (R.F pf) w W:=h3.mono (fun k hk=>.inr (.inr hk));have lS:au W pf #[R.nv,R.dv,.int .i64 S.last,.int .i64 R.now,R.oS,R.pl,R.dd] 76:=h.bd.mod h3 (fun hk=>by
  obtain⟨-,hc⟩:=aT h.eI hk;exact cT hc h.bd (by decide) rfl)
 have hpg:pf≠g:=by
  rintro rfl;rcases h4 with h4|h4
  ·obtain⟨-,hc⟩:=aT h.eI h4;exact cT hc h.bd (by decide) rfl
  ·have:=h.bd.lt;omega
 have sm:aL (R.F pf) (R.F pf) w (W.setCell ⟨pf,1,none⟩ (.slice (some ⟨g,0,none⟩) (S.ds.length+1) cap)):=aL.dH (hM.setCell (.inl (.inl rfl)) _);have hmp:Mod (fun k=>k=pf) W (W.setCell ⟨pf,1,none⟩ (.slice (some ⟨g,0,none⟩) (S.ds.length+1) cap)):=(Mod.refl (fun k=>k=pf) W).setCell (a:=⟨pf,1,none⟩) (.inl rfl) _;refine⟨g,cap,W,h1,⟨lS.set 1 _,?_,?_,h.ns,fun x hx=>(h.aB x hx).rf h sm⟩,⟨sm.mod,fun k hk=>?_⟩,lS,h3⟩
 ·refine bq (bq h.sj h3 (fun k hk e=>?_)) hmp (fun k hk e=>?_)
  ·obtain⟨-,hc⟩:=aT h.eI hk;obtain⟨-,cur,eh⟩:=aT h.sj e;exact cT hc (show au w k cur 99 from eh) (by decide) rfl
  ·obtain⟨-,hc⟩:=aT h.sj e;exact cT hc h.bd (by decide) hk.symm
 ·show World.ownsRow _ 0 208 6 _ (S.ds++[y]).length ((S.ds++[y]).flatMap Dv.cs);rw[List.length_append,List.length_singleton,List.flatMap_append,List.flatMap_singleton];refine bq h2 hmp (fun k hk e=>?_);subst hk;simp only[Value.ownBlock,Option.some.injEq] at e;exact hpg e.symm
 ·rcases hk with hk|hk|hk
  ·exact .inl (.inl hk)
  ·exact .inl (.inr (.inl hk))
  ·simp only[Value.ownBlock,Option.some.injEq] at hk;subst hk;rcases h4 with h4|h4
   ·exact .inl (.inr (.inr h4))
   ·exact .inr (by omega)
theorem jq(h:aE w pf R S)(d:Int) :
  Calls Tryz.prog 129 #[.pointer (some ⟨pf,0,none⟩),.int .i64 d] w fun e w'=>e=.returned (.int .i64 (S.root d))∧w'=w:=by
 obtain⟨da,dc,hdv,J',Pz⟩:=h.EO;obtain⟨pc,-,pz⟩:=h.bd.facts;by_cases h1:1≤d
 ·by_cases h2:d≤S.ds.length
  ·obtain⟨k,rfl⟩:∃k:Nat,d=(k:Int)+1:=⟨(d-1).toNat,by omega⟩;have hk:k<S.ds.length:=by omega
   have hr:S.root ((k:Int)+1)=S.ds[k].root:=by
    unfold Fs.root;rw[if_pos ⟨h1,h2⟩,show((k:Int)+1-1).toNat=k by omega,List.getElem?_eq_getElem hk]
   rw[hr];obtain⟨g,cap,hdv,hle,sI,hg,hc,-,-⟩:=h.jm (by omega);rw[hdv] at pc;have hcc:=(hc _ hk).c0;clear hc hr h;generalize S.ds[k]=v at hcc⊢;generalize S.ds.length=n at pc hle h2 hk;go_enter Tryz.func129,Tryz.ntmps129
   go_wp2
   go_ret;exact⟨rfl,rfl⟩
  ·rw[ni (by omega)];have kA:(S.ds.length:Int)<d:=by omega
   rw[hdv] at pc;clear h;generalize S.ds.length=n at pc h2 kA;go_enter Tryz.func129,Tryz.ntmps129
   go_wp2
   go_ret;exact⟨rfl,rfl⟩
 ·rw[ni (by omega)];have mH:d<1:=by omega
  clear h;go_enter Tryz.func129,Tryz.ntmps129
  go_wp2
  go_ret;exact⟨rfl,rfl⟩
theorem nh(h:aE w pf R S)(no:Int) :
  Calls Tryz.prog 125 #[.pointer (some ⟨pf,0,none⟩),.int .i64 no] w fun e w'=>e=.returned (.int .i64 (S.over no))∧w'=w:=by
 have HW:=Um h;obtain⟨da,dc,hdv,J',Pz⟩:=h.EO;have j8:=Um hdv;obtain⟨pc,-,pz⟩:=h.bd.facts;rw[hdv] at pc;have o5:=Um (fun h0=>Eo S no h0);have l8:=Um (wJ S no);have D7:=Um (show¬0<no→S.over no=no from fun h0=>by unfold Fs.over;rw[if_neg h0]);obtain⟨n,hn⟩:∃n,S.ds.length=n:=⟨_,rfl⟩;have H':=Um hn;rw[hn] at pc J';generalize S.over no=out at o5 l8 D7⊢;clear h hdv hn;go_enter Tryz.func125,Tryz.ntmps125;go_wp2_with fail
 go_loopw [5] (fun t5 wr=>∃k:Nat,k≤n∧t5=.int .i64 k∧(∀j (hj:j<S.ds.length),j<k→0<no→S.ds[j].over≠no)∧wr=w) (fun t5 _=>n-(intOf t5).toNat)
 case atStart=>exact⟨0,Nat.zero_le _,rfl,fun j _ h=>absurd h (Nat.not_lt_zero _),rfl⟩
 case round=>
  obtain⟨k,hk,rfl,hno,rfl⟩:=hrel;have fL:=Um hno;clear hno;by_cases hlt:k<n
  ·have hkl:k<S.ds.length:=by rw[H'.o];exact hlt
   obtain⟨g,cap,vC,-,-,hg,hc,-,-⟩:=HW.o.jm (by omega);have he:=j8.o.symm.trans vC;injection he with zm o3 he3;subst zm;obtain⟨c0,c1,-,-,-,-⟩:=hc k hkl;have kD:=Um (fun h0=>o5.o h0 k hkl);clear hc vC o3 he3;by_cases h0:0<no
   ·by_cases hq:S.ds[k].over=no
    ·have HR:=Um (kD.o h0 (fun j hj hjk=>fL.o j hj hjk h0) hq);have hqb:(S.ds[k].over==no)=true:=by simpa using hq
     generalize S.ds[k]=v at c0 c1 hqb HR;clear hq;go_wp2_with fail;go_ret;exact⟨by rw[HR.o];rfl,rfl⟩
    ·have hqb:(S.ds[k].over==no)=false:=by simpa using hq
     have D8:=Um (show∀j (hj:j<S.ds.length),j<k+1→0<no→S.ds[j].over≠no from fun j hj hjk h0=>by
      by_cases e:j=k
      ·subst e;exact hq
      ·exact fL.o j hj (by omega) h0)
     generalize S.ds[k]=v at c0 c1 hqb;clear hq;go_wp2_with fail;go_roundw
     case rel=>exact⟨k+1,by omega,by go_num,D8.o,by trivial⟩
     case measure=>simp[intOf];omega
   ·have D8:=Um (show∀j (hj:j<S.ds.length),j<k+1→0<no→S.ds[j].over≠no from fun j hj hjk h1=>absurd h1 h0);clear c0 c1;go_wp2_with fail;go_roundw
    case rel=>exact⟨k+1,by omega,by go_num,D8.o,by trivial⟩
    case measure=>simp[intOf];omega
  ·obtain rfl:k=n:=by omega
   have HR:=Um (show out=no by
    by_cases h0:0<no
    ·exact l8.o (fun j hj=>fL.o j hj (by rw[←H'.o];exact hj) h0)
    ·exact D7.o (by omega))
   go_wp2_with fail;go_ret;exact⟨by rw[HR.o];rfl,rfl⟩
end
end
section
open Go.RowKit
section
variable{w w':World}{pf:Nat}{R:Rf}{S:Fs}
theorem BR(S:Fs)(hn:gY S)(over b n:Int) :
  {((S.add (jC S)).set {jC S with no:=S.last+1,up:=S.last+1}) with ds:=S.ds++[⟨S.last+1,over,1,1,b,n⟩]}=S.aF over b n:=by
 unfold Fs.aF Fs.set Fs.add;simp only[List.map_append,List.map_cons,List.map_nil];congr 1;congr 1
 ·conv=>rhs;rw[←List.map_id S.ns]
  apply List.map_congr_left;intro x hx;have:=hn.low x hx;simp only[id_eq];rw[if_neg];simp;omega
 ·simp[jC]
theorem tu(h:aE w pf R S)(hn:gY S)(dL:0≤S.last)(qk:S.last≤100000)(hgl:S.ns.length≤100000)(hd:S.ds.length≤7)(over b n:Int) :
  Calls Tryz.prog 160 #[.pointer (some ⟨pf,0,none⟩),.int .i64 over,.int .i64 b,.int .i64 n] w fun e w'=>e=.returned (.int .i64 (S.last+1))∧∃R',aE w' pf R' (S.aF over b n)∧aL (R.F pf) (R'.F pf) w w'∧Rf.ct R R':=by
 have hlen:=h.len;obtain⟨da,dc,hdv,J',Pz⟩:=h.EO;obtain⟨pc,-,pz⟩:=h.bd.facts;rw[hdv] at pc;obtain⟨m,hm⟩:∃m,S.ds.length=m:=⟨_,rfl⟩;have Hm:=Um hm;obtain⟨S2,jR⟩:∃S2,S.add (jC S)=S2:=⟨_,rfl⟩;obtain⟨a5,Ii⟩:∃a5:An,{jC S with no:=S.last+1}=a5:=⟨_,rfl⟩;obtain⟨a6,Nv⟩:∃a6:An,{jC S with no:=S.last+1,up:=S.last+1}=a6:=⟨_,rfl⟩;have HAdd:=Um (show Calls Tryz.prog 215 #[.pointer (some ⟨pf,0,none⟩),.agg #[.int .i64 0,.int .i64 ((m:Int)+1),.int .i64 1,.int .i64 493,.int .i64 0,.int .i64 0,.int .i64 0,.int .i64 0,.int .i64 1,.int .i64 0,.string ByteArray.empty,.slice none 0 0]] w fun e w'=>e=.returned (.int .i64 (S.last+1))∧∃R',aE w' pf R' S2∧aL (R.F pf) (R'.F pf) w w'∧Rf.ct R R'∧R'.dv=R.dv by
  rw[←hm,←jR];exact Au h (a:=jC S) (aA.nil w) dL (by omega) (by omega))
 have Lv:=Um (show S2.get (S.last+1)=some a5 by rw[←jR,←Ii,lB hn];exact if_pos rfl);have HV5:=Um (fun(ea:Option Addr) (el ec:Nat)=>show a5.v ea el ec=.agg #[.int .i64 (S.last+1),.int .i64 ((m:Int)+1),.int .i64 1,.int .i64 493,.int .i64 0,.int .i64 0,.int .i64 0,.int .i64 0,.int .i64 1,.int .i64 0,.string ByteArray.empty,.slice ea el ec] by rw[←Ii,←hm];rfl);have HV6:=Um (fun(ea:Option Addr) (el ec:Nat)=>show a6.v ea el ec=.agg #[.int .i64 (S.last+1),.int .i64 ((m:Int)+1),.int .i64 1,.int .i64 493,.int .i64 0,.int .i64 0,.int .i64 0,.int .i64 0,.int .i64 1,.int .i64 (S.last+1),.string ByteArray.empty,.slice ea el ec] by rw[←Nv,←hm];rfl);have Uj:=Um (show a6.no=S.last+1∧a6.aB=a5.aB by rw[←Nv,←Ii];exact⟨rfl,rfl⟩);have HEq:=Um (show{(S2.set a6) with ds:=(S2.set a6).ds++[⟨S.last+1,over,1,1,b,n⟩]}=S.aF over b n by rw[←jR,←Nv];exact BR S hn over b n);have Iv:=Um (show(S2.set a6).ds.length=m by rw[←jR,←hm];rfl);have zw:=Um (show gY S2 by rw[←jR];exact hn.add dL (jC S));have hmm:(m:Int)≤7:=by omega
 rw[hm] at pc;clear h hm jR Ii Nv hlen hgl;go_enter Tryz.func160,Tryz.ntmps160;go_wp2_with fail;refine HAdd.o.mono ?_;rintro e w5 ⟨rfl,R5,ev,fo,gy,yF⟩;have oZ:=Um (ag ev (ag fo (ag gy yF)));obtain⟨ea,el,ec,hE,hG⟩:=mm ev Lv.o;rw[HV5.o] at hG;have HG:=Um hG;have HE:=Um hE;clear ev fo gy yF hG hE pc;go_wp2_with fail;refine HG.o.mono ?_;rintro e w6 ⟨rfl,eV⟩;have ax:=al eV (.cells #[.int .i64 (S.last+1),.int .i64 ((m:Int)+1),.int .i64 1,.int .i64 493,.int .i64 0,.int .i64 0,.int .i64 0,.int .i64 0,.int .i64 1,.int .i64 (S.last+1),.string ByteArray.empty,.slice ea el ec] 99);have dW:=Um (iL (oZ.o.1.ak ax) zw.o (a:=a6) (ea:=ea) (el:=el) (ec:=ec) (by rw[Uj.o.2];exact HE.o.ak ax) (b:=a5) (by rw[Uj.o.1];exact Lv.o));rw[HV6.o] at dW;have sP:=Um eV;have aJ:=Um ax;clear eV ax;go_wp2_with fail;refine dW.o.mono ?_;rintro e w7 ⟨rfl,R7,Dy,qO,Km,SI⟩;obtain⟨xc,xf,xz⟩:=Dy.bd.facts;have Py:R7.dv=.slice da m dc:=by rw[SI,oZ.o.2.2.2,hdv,Hm.o]
 rw[Py] at xc;have lT:Up w7 (w7.alloc (.cells #[.int .i64 (S.last+1),.int .i64 over,.int .i64 1,.int .i64 1,.int .i64 b,.int .i64 n] 208)):=(Below.refl _ w7).alloc (aa _) _;obtain⟨g,cap,Y,hrun,qm,sq,et,QV⟩:=(Dy.ak lT).appD (by rw[Iv.o];omega) ⟨w7.heap.size,0,none⟩ ⟨S.last+1,over,1,1,b,n⟩ (World.news_of_block (au.new w7 #[.int .i64 (S.last+1),.int .i64 over,.int .i64 1,.int .i64 1,.int .i64 b,.int .i64 n] 208));obtain⟨yc,yf,yz⟩:=et.facts;rw[Iv.o,Py] at hrun;rw[Py] at yc;rw[HEq.o] at qm;rw[Iv.o] at qm sq;have HF:=Um (ag qm (ag ((((oZ.o.2.1.trans (aL.aq aJ.o)).trans qO).trans (aL.aq lT)).trans sq) (oZ.o.2.2.1.trans Km)));have HR:=Um hrun;clear Dy qO Km SI lT qm sq et QV hrun;go_wp2_with (at_builtin;refine aG rfl rfl rfl rfl HR.o ?_);go_ret;exact⟨rfl,_,HF.o.1,HF.o.2.1,⟨HF.o.2.2.now,HF.o.2.2.oS,HF.o.2.2.pl,HF.o.2.2.dd⟩⟩
end
end
section
open Go.RowKit
def Mz:Rf:=⟨.slice none 0 0,.slice none 0 0,[],0,.int .i64 0,.slice none 0 0,.bool false⟩
theorem I6(b n:Int)(hlim:hU b n=true)(w:World) :
  Calls Tryz.prog 99 #[.int .i64 b,.int .i64 n] w fun e w'=>∃pf R',e=.returned (.pointer (some ⟨pf,0,none⟩))∧aE w' pf R' (sK.aF 0 b n)∧(∀k,R'.F pf k→w.heap.size≤k)∧Rf.ct Mz R'∧Up w w':=by
 have bO:=(Below.refl _ w).alloc (aa _) (.cells #[.slice none 0 0,.slice none 0 0,.int .i64 0,.int .i64 0,.int .i64 0,.slice none 0 0,.bool false] 76);have h0:aE (w.alloc (.cells #[.slice none 0 0,.slice none 0 0,.int .i64 0,.int .i64 0,.int .i64 0,.slice none 0 0,.bool false] 76)) w.heap.size Mz sK:=
  ⟨au.new w _ _,World.ownsRow_nil _ _ _ _,World.ownsRow_nil _ _ _ _,rfl,fun g hg=>by cases hg⟩
 have D4:=Um (tu h0 ⟨List.Pairwise.nil,fun x hx=>by simp[sK] at hx⟩ (by decide) (by decide) (by decide) (by decide) 0 b n);have rs:=Um (fun w=>k7 b n w);rw[hlim] at rs;have bP:=Um bO;clear h0 bO hlim;go_enter Tryz.func99,Tryz.ntmps99;go_wp2_with fail;refine(rs.o _).mono ?_;rintro e w1 ⟨rfl,rfl⟩;go_wp2_with fail;refine D4.o.mono ?_;rintro e w2 ⟨rfl,R',hR,hS,hL⟩;have HX:=Um (ag hR (ag hS hL));clear hR hS hL;go_wp2_with fail;go_ret;have hF:∀k,Mz.F w.heap.size k→w.heap.size≤k:=fun k hk=>by
  rcases hk with rfl|hk|hk
  ·exact aa _
  ·cases hk
  ·cases hk
 exact⟨_,R',rfl,HX.o.1,HX.o.2.1.aQ hF (by simp),HX.o.2.2,bP.o.trans (HX.o.2.1.below hF (by simp))⟩
section
variable{w w':World}{pf:Nat}{R:Rf}{S:Fs}
theorem tz(h:aE w pf R S){N:Nat}(hk:av S N)(hN:N≤100000)(hgl:S.ns.length≤100000)(no b n:Int) :
  Calls Tryz.prog 162 #[.pointer (some ⟨pf,0,none⟩),.int .i64 no,.int .i64 b,.int .i64 n] w fun e w'=>e=.returned (.tuple #[.int .i64 (S.cn no b n).2.1,.int .i64 (S.cn no b n).2.2])∧∃R',aE w' pf R' (S.cn no b n).1∧aL (R.F pf) (R'.F pf) w w'∧Rf.ct R R':=by
 have hkeep:∀w2,Up w w2→∃R',aE w2 pf R' S∧aL (R.F pf) (R'.F pf) w w2∧Rf.ct R R':=fun w2 hb=>⟨R,h.ak hb,aL.aq hb,Rf.ct.refl R⟩;have jV:=Um hkeep;have HW:=Um h;have HK:=Um hk
 cases hg:S.get no with
 |none=>
  have HM:=Um (show S.cn no b n=(S,0,5) by unfold Fs.cn;rw[hg]);have HG:=Um (jh h hg);unfold An.v dh at HG;clear h hk hg hkeep;go_enter Tryz.func162,Tryz.ntmps162;go_wp2_with fail;refine HG.o.mono ?_;rintro e w1 ⟨rfl,ar⟩;have HB:=Um (al ar (.cells #[.int .i64 0,.int .i64 0,.int .i64 0,.int .i64 0,.int .i64 0,.int .i64 0,.int .i64 0,.int .i64 0,.int .i64 0,.int .i64 0,.string ByteArray.empty,.slice none 0 0] 99));clear ar;go_wp2_with fail;go_ret2;rw[HM.o];exact⟨rfl,jV.o _ HB.o⟩
 |some a=>
  obtain⟨hao,hno,h1,-⟩:=hk.get hg;obtain⟨ea,el,ec,-,hgc⟩:=mm h hg;have HG:=Um hgc;unfold An.v at HG;have hz:(a.no==0)=false:=by simp only[beq_eq_false_iff_ne,ne_eq];omega
  have HM:=Um (show S.cn no b n=if a.kind≠1 then(S,0,9) else if S.over no≠no∨S.root a.dev=no then(S,0,16) else if 8≤S.ds.length∨hU b n=false then(S,0,3) else(S.aF no b n,S.last+1,0) by unfold Fs.cn;rw[hg]);have sw:=Um (fun w1 (ar:Up w w1)=>jq (h.ak ar) a.dev);have vt:=Um (fun w1 (ar:Up w w1)=>nh (h.ak ar) no);have rs:=Um (fun w=>k7 b n w);obtain⟨da,dc,hdv,J',Pz⟩:=h.EO;obtain⟨pc,-,pz⟩:=h.bd.facts;rw[hdv] at pc;generalize hov:S.over no=ov at HM vt;generalize hrt:S.root a.dev=rt at HM sw;have bO:∀w1,Up w w1→Up w (w1.alloc (.cells #[.int .i64 a.no,.int .i64 a.dev,.int .i64 a.kind,.int .i64 a.mode,.int .i64 a.uid,.int .i64 a.gid,.int .i64 a.mtime,.int .i64 a.ctime,.int .i64 a.an,.int .i64 a.up,.string a.data,.slice ea el ec] 99)):=fun w1 hb=>al hb _;have bP:=Um bO;have D4:=Um (fun w1 (ar:Up w w1) (hd:S.ds.length≤7)=>tu (h.ak ar) hk.nums hk.l0 (by have:=hk.lN;omega) hgl hd no b n);obtain⟨m,hm⟩:∃m,S.ds.length=m:=⟨_,rfl⟩;rw[hm] at pc HM D4;clear h hk hg hgc hao hkeep hno hov hrt hdv hm bO h1 J';go_enter Tryz.func162,Tryz.ntmps162;go_wp2_with fail;refine HG.o.mono ?_;rintro e w1 ⟨rfl,ar⟩;have ax:=bP.o w1 ar;have gm:=au.new w1 #[.int .i64 a.no,.int .i64 a.dev,.int .i64 a.kind,.int .i64 a.mode,.int .i64 a.uid,.int .i64 a.gid,.int .i64 a.mtime,.int .i64 a.ctime,.int .i64 a.an,.int .i64 a.up,.string a.data,.slice ea el ec] 99;go_upto_region 2 with fail;generalize w1.alloc _=X at ax gm⊢;have aJ:=Um ax;obtain⟨qc,qf,qz⟩:=gm.facts;have pc2:=fun i=>(ax.cell (p:=⟨pf,i,none⟩) pz).trans (pc i);clear ar ax gm pc;by_cases h1:a.kind=1
  ·have q1:(a.kind==1)=true:=by simpa using h1
   have q2:(a.kind != 1)=false:=by simpa using h1
   have zd:=Um (HM.o.trans (if_neg (by simpa using h1)));clear h1;by_cases h2:ov=no
   ·by_cases h3:rt=no
    ·have sg:=Um (zd.o.trans (if_pos (.inr h3)));have q3:(ov != no)=false:=by simpa using h2
     have q4:(rt==no)=true:=by simpa using h3
     clear h2 h3;go_wp2_with fail;refine(vt.o _ aJ.o).mono ?_;rintro e w2 ⟨rfl,rfl⟩;go_wp2_with fail;refine(sw.o _ aJ.o).mono ?_;rintro e w2 ⟨rfl,rfl⟩;go_wp2_with fail;go_ret2;rw[sg.o];exact⟨rfl,jV.o _ aJ.o⟩
    ·have sg:=Um (zd.o.trans (if_neg (by rintro(h|h);exact h h2;exact h3 h)));have q3:(ov != no)=false:=by simpa using h2
     have q4:(rt==no)=false:=by simpa using h3
     clear h2 h3;by_cases h4:8≤m
     ·have L1:=Um (sg.o.trans (if_pos (.inl h4)));have q5:(8:Int)≤(m:Int):=by omega
      clear h4;go_wp2_with fail;refine(vt.o _ aJ.o).mono ?_;rintro e w2 ⟨rfl,rfl⟩;go_wp2_with fail;refine(sw.o _ aJ.o).mono ?_;rintro e w2 ⟨rfl,rfl⟩;go_wp2_with fail;go_ret2;rw[L1.o];exact⟨rfl,jV.o _ aJ.o⟩
     ·have q5:¬(8:Int)≤(m:Int):=by omega
      have HM7:=Um (show m≤7 by omega)
      cases hl:hU b n with
      |false=>
       have L1:=Um (sg.o.trans (if_pos (.inr hl)));rw[hl] at rs;clear h4 hl;go_wp2_with fail;refine(vt.o _ aJ.o).mono ?_;rintro e w2 ⟨rfl,rfl⟩;go_wp2_with fail;refine(sw.o _ aJ.o).mono ?_;rintro e w2 ⟨rfl,rfl⟩;go_wp2_with fail;refine(rs.o _).mono ?_;rintro e w2 ⟨rfl,rfl⟩;go_wp2_with fail;go_ret2;rw[L1.o];exact⟨rfl,jV.o _ aJ.o⟩
      |true=>
       have L1:=Um (sg.o.trans (if_neg (by rintro(h|h);exact h4 h;rw[hl] at h;cases h)));rw[hl] at rs;clear h4 hl;go_wp2_with fail;refine(vt.o _ aJ.o).mono ?_;rintro e w2 ⟨rfl,rfl⟩;go_wp2_with fail;refine(sw.o _ aJ.o).mono ?_;rintro e w2 ⟨rfl,rfl⟩;go_wp2_with fail;refine(rs.o _).mono ?_;rintro e w2 ⟨rfl,rfl⟩;go_wp2_with fail;refine(D4.o _ aJ.o HM7.o).mono ?_;rintro e w3 ⟨rfl,R',hR,hS,hL⟩;have HF:=Um (ag hR (ag ((aL.aq aJ.o).trans hS) hL));clear hR hS hL;go_wp2_with fail;go_ret2;rw[L1.o];exact⟨rfl,R',HF.o.1,HF.o.2.1,HF.o.2.2⟩
   ·have sg:=Um (zd.o.trans (if_pos (.inl h2)));have q3:(ov != no)=true:=by simpa using h2
    clear h2;go_wp2_with fail;refine(vt.o _ aJ.o).mono ?_;rintro e w2 ⟨rfl,rfl⟩;go_wp2_with fail;go_ret2;rw[sg.o];exact⟨rfl,jV.o _ aJ.o⟩
  ·have q1:(a.kind==1)=false:=by simpa using h1
   have q2:(a.kind != 1)=true:=by simpa using h1
   have zd:=Um (HM.o.trans (if_pos (by simpa using h1)));clear h1;go_wp2_with fail;go_ret2;rw[zd.o];exact⟨rfl,jV.o _ aJ.o⟩
end
end
section
open Go.RowKit
section
variable{w w':World}{pf:Nat}{R:Rf}{S:Fs}
theorem kS(h:aE w pf R S){N:Nat}(hk:av S N)(no:Int) :
  Calls Tryz.prog 136 #[.pointer (some ⟨pf,0,none⟩),.int .i64 no] w fun e w'=>e=.returned (.int .i64 (S.aQ no))∧Up w w':=by
 have mixed:Tryz.prog.follows .mixedOrders=true:=by kernel_rfl
 cases hg:S.get no with
 |none=>
  have HA:=Um (lC hg);have HG:=Um (jh h hg);unfold An.v dh at HG;clear h hk hg;go_enter Tryz.func136,Tryz.ntmps136;go_wp2_with fail;refine HG.o.mono ?_;rintro e w1 ⟨rfl,ar⟩;have HB:=Um (al ar (.cells #[.int .i64 0,.int .i64 0,.int .i64 0,.int .i64 0,.int .i64 0,.int .i64 0,.int .i64 0,.int .i64 0,.int .i64 0,.int .i64 0,.string ByteArray.empty,.slice none 0 0] 99));clear ar;go_wp2_with fail;go_ret;rw[HA.o];exact⟨rfl,HB.o⟩
 |some a=>
  obtain⟨hao,hno,gO,-⟩:=hk.get hg;obtain⟨ea,el,ec,-,hgc⟩:=mm h hg;have HG:=Um hgc;unfold An.v at HG;have HA:=Um (show S.aQ no=if a.kind≠1 then 0 else if S.root a.dev=no∧1<a.dev then(match S.dev a.dev with|none=>0|some v=>match S.get v.over with|none=>0|some b=>b.up) else a.up by unfold Fs.aQ;rw[hg];rfl);have sw:=Um (fun w1 (ar:Up w w1)=>jq (h.ak ar) a.dev);have bP:=Um (show∀w1,Up w w1→Up w (w1.alloc (.cells #[.int .i64 a.no,.int .i64 a.dev,.int .i64 a.kind,.int .i64 a.mode,.int .i64 a.uid,.int .i64 a.gid,.int .i64 a.mtime,.int .i64 a.ctime,.int .i64 a.an,.int .i64 a.up,.string a.data,.slice ea el ec] 99)) from fun w1 hb=>al hb _);obtain⟨v,hv,hrv,-,-⟩:=kO hk hao.dev.1 hao.dev.2;obtain⟨g,cap,hdv,hle,sI,hgl,hc,-,-⟩:=h.jm hk.d1;obtain⟨pc,-,pz⟩:=h.bd.facts;rw[hdv] at pc;obtain⟨k,hkd⟩:∃k:Nat,a.dev=(k:Int)+1:=⟨(a.dev-1).toNat,by have:=hao.dev.1;omega⟩;have hkl:k<S.ds.length:=by have:=hao.dev.2;omega
  have hvk:S.ds[k]=v:=by
   unfold Fs.dev at hv;rw[if_pos (by omega),hkd,show((k:Int)+1-1).toNat=k by omega,List.getElem?_eq_getElem hkl] at hv;simpa using hv
  have cc:=(hc k hkl).c1;rw[hvk] at cc;rw[hv] at HA;have HGv:=Um (fun w1 (ar:Up w w1)=>ag (fun(hgv:S.get v.over=none)=>jh (h.ak ar) hgv) (fun b (hgv:S.get v.over=some b)=>mm (h.ak ar) hgv));have HGp:=Um pc;generalize hrt:S.root a.dev=rt at HA sw;have Ps:k<S.ds.length:=hkl;generalize S.ds.length=m at pc hle Ps;clear h hg hgc hao hrv hv hc hdv hvk hkl hrt hk hno HGp;rw[hkd] at HG sw HA bP;have hkm:(k:Int)+1≤(m:Int):=by omega
  go_enter Tryz.func136,Tryz.ntmps136;go_wp2_with fail;refine HG.o.mono ?_;rintro e w1 ⟨rfl,ar⟩;have ax:=bP.o w1 ar;have gm:=au.new w1 #[.int .i64 a.no,.int .i64 ((k:Int)+1),.int .i64 a.kind,.int .i64 a.mode,.int .i64 a.uid,.int .i64 a.gid,.int .i64 a.mtime,.int .i64 a.ctime,.int .i64 a.an,.int .i64 a.up,.string a.data,.slice ea el ec] 99;go_upto_region 2 with fail;generalize w1.alloc _=X at ax gm⊢;have aJ:=Um ax;have cM:=Um gm;have pO:=ar.size;obtain⟨qc,qf,qz⟩:=gm.facts;have pc2:=fun i=>(ax.cell (p:=⟨pf,i,none⟩) pz).trans (pc i);have cc2:=(ax.cell (p:=⟨g,k*6+1,none⟩) hgl).trans cc;have J7:g<X.heap.size:=Nat.lt_of_lt_of_le hgl ax.size;clear ar ax gm pc cc;by_cases h1:a.kind=1
  ·have q1:(a.kind==1)=true:=by simpa using h1
   have q2:(a.kind != 1)=false:=by simpa using h1
   have Uk:=Um (HA.o.trans (if_neg (by simpa using h1)));clear h1;by_cases h2:1<(k:Int)+1
   ·by_cases h3:rt=no
    ·have vL:=Um (Uk.o.trans (if_pos ⟨h3,h2⟩));have q3:(rt==no)=true:=by simpa using h3
     clear h3;go_wp2_with fail;refine(sw.o _ aJ.o).mono ?_;rintro e w2 ⟨rfl,rfl⟩;go_wp2_with fail;have Sg:IntKind.i64.wrap ((k:Int)+1-1)=(k:Int):=by simp[IntKind.wrap,IntKind.bits,IntKind.signed];omega
     have Sf:IntKind.i64.wrap (k:Int)=(k:Int):=by simp[IntKind.wrap,IntKind.bits,IntKind.signed];omega
     have Ng:(0:Int)≤(k:Int)∧(k:Int)<(m:Int)∧((k:Int)).toNat=k:=by omega
     obtain⟨gP,ig,mD⟩:=Ng;refine ay 11 mixed (by kernel_rfl) (show bV _ from by repeat (first|exact cZ|refine cY ?_|refine cw ?_|refine cJ ?_)) ?_;simp only[List.take_succ_cons,List.take_zero,List.drop_succ_cons,List.drop_zero]
     repeat still_step
     refine wpStill_nil ?_
     cases hgv:S.get v.over with
     |none=>
      have HC:=Um (((HGv.o _ aJ.o.drew).1 hgv));unfold An.v dh at HC;have RB:=Um (show S.aQ no=0 by rw[vL.o,hgv]);clear hgv qc qf qz pc2 cc2;go_wp2_with fail;refine HC.o.mono ?_;rintro e w3 ⟨rfl,bJ⟩;have rW:=(cM.o.drew).ak bJ;obtain⟨qc,qf,qz⟩:=rW.facts;have ez:=Um (aJ.o.drew.trans (bJ.mono (by have:=aJ.o.size;simpa using this)));clear bJ rW;go_wp2_with fail;go_ret;rw[RB.o];exact⟨rfl,aM ez.o pO⟩
     |some b=>
      obtain⟨fa,fl,fc,-,hcb⟩:=(HGv.o _ aJ.o.drew).2 b hgv;have HC:=Um hcb;unfold An.v at HC;have RB:=Um (show S.aQ no=b.up by rw[vL.o,hgv]);clear hgv hcb qc qf qz pc2 cc2;go_wp2_with fail;refine HC.o.mono ?_;rintro e w3 ⟨rfl,bJ⟩;have rW:=(cM.o.drew).ak bJ;obtain⟨qc,qf,qz⟩:=rW.facts;have ez:=Um (aJ.o.drew.trans (bJ.mono (by have:=aJ.o.size;simpa using this)));clear bJ rW;go_wp2_with fail;go_ret;rw[RB.o];exact⟨rfl,aM ez.o pO⟩
    ·have vL:=Um (Uk.o.trans (if_neg (fun h=>h3 h.1)));have q3:(rt==no)=false:=by simpa using h3
     clear h3;go_wp2_with fail;refine(sw.o _ aJ.o).mono ?_;rintro e w2 ⟨rfl,rfl⟩;go_wp2_with fail;go_ret;rw[vL.o];exact⟨rfl,aJ.o⟩
   ·have vL:=Um (Uk.o.trans (if_neg (fun h=>h2 h.2)));go_wp2_with fail;go_ret;rw[vL.o];exact⟨rfl,aJ.o⟩
  ·have q1:(a.kind==1)=false:=by simpa using h1
   have q2:(a.kind != 1)=true:=by simpa using h1
   have Uk:=Um (HA.o.trans (if_pos (by simpa using h1)));clear h1;go_wp2_with fail;go_ret;rw[Uk.o];exact⟨rfl,aJ.o⟩
end
end
section
open Go.RowKit
section
variable{w w':World}{pf:Nat}{R:Rf}{S:Fs}
theorem Aa(h:aE w pf R S){N:Nat}(hk:av S N)(hl:S.ns.length≤100000)(no base:Int) :
  Calls Tryz.prog 198 #[.pointer (some ⟨pf,0,none⟩),.int .i64 no,.int .i64 base] w fun e w'=>e=.returned (.bool (S.within no base))∧Up w w':=by
 obtain⟨na,nc,hnv,gO,jj⟩:=h.wN;have hlen:=h.len;have HW:=Um h;have HS:=Um (show S.within no base=S.ew base (S.ns.length+1) no from rfl);have HA:=Um (fun w1 (ar:Up w w1) x=>kS (h.ak ar) hk x);have hb:=h.bd;rw[hnv] at hb;have HB:=Um hb;rw[←hlen] at HB gO;generalize S.ns.length=n at HB gO HS hl;generalize S.within no base=out at HS⊢;clear h hk hnv hlen hb;go_enter Tryz.func198,Tryz.ntmps198;go_wp2_with fail
 go_loopw [1,7] (fun t1 t7 wr=>∃(k:Nat) (x:Int),k≤n+1∧t1=.int .i64 x∧t7=.int .i64 k∧out=S.ew base (n+1-k) x∧Up w wr) (fun _ t7 _=>n+1-(intOf t7).toNat)
 case atStart=>exact⟨0,no,Nat.zero_le _,rfl,rfl,HS.o,Below.refl _ _⟩
 case round=>
  obtain⟨k,x,gP,rfl,rfl,hE,hbw⟩:=hrel;have HE:=Um hE;have je:=Um hbw;obtain⟨bc,-,-⟩:=(HB.o.ak hbw).facts;clear hE hbw;by_cases hlt:k≤n
  ·have uk:(k:Int)≤(n:Int):=by omega
   have cq:=Um (show out=if x=0 then false else if x=base then true else S.ew base (n+1-(k+1)) (S.aQ x) by
    rw[HE.o,show n+1-k=(n+1-(k+1))+1 by omega];rfl)
   by_cases h0:x=0
   ·have p0:(x != 0)=false:=by simpa using h0
    have HO:=Um (cq.o.trans (if_pos h0));clear h0;go_wp2_with fail;go_ret;rw[HO.o];exact⟨rfl,je.o⟩
   ·have p0:(x != 0)=true:=by simpa using h0
    have Is:=Um (cq.o.trans (if_neg h0));clear h0;by_cases h1:x=base
    ·have p1:(x==base)=true:=by simpa using h1
     have HO:=Um (Is.o.trans (if_pos h1));clear h1;go_wp2_with fail;go_ret;rw[HO.o];exact⟨rfl,je.o⟩
    ·have p1:(x==base)=false:=by simpa using h1
     have HO:=Um (Is.o.trans (if_neg h1));have zi:=Um (HA.o wr je.o x);clear h1;go_wp2_with fail;refine zi.o.mono ?_;rintro e w1 ⟨rfl,ar⟩;have cM:=Um (ao je.o ar);clear ar;go_wp2_with fail;go_roundw
     case rel=>exact⟨k+1,S.aQ x,by omega,rfl,by go_num,HO.o,cM.o⟩
     case measure=>simp[intOf];omega
  ·have hkn:k=n+1:=by omega
   subst hkn;have hgt:¬((n:Int)+1≤(n:Int)):=by omega
   have HO:=Um (show out=false by rw[HE.o,Nat.sub_self];rfl);go_wp2_with fail;go_ret;rw[HO.o];exact⟨rfl,je.o⟩
theorem xB{S:Fs}{no:Int}{k:Nat}(hk:k<S.ds.length):(S.ds.drop k).any (fun d=>S.within d.over no)=(S.within S.ds[k].over no||(S.ds.drop (k+1)).any (fun d=>S.within d.over no)):=by
 rw[List.drop_eq_getElem_cons hk,List.any_cons]
theorem FX(h:aE w pf R S){N:Nat}(hk:av S N)(hl:S.ns.length≤100000)(no:Int) :
  Calls Tryz.prog 138 #[.pointer (some ⟨pf,0,none⟩),.int .i64 no] w fun e w'=>e=.returned (.bool (S.busy no))∧Up w w':=by
 obtain⟨g,cap,hdv,hle,sI,hgl,hc,-,-⟩:=h.jm hk.d1;have yD:=hk.d1;have Nl:=hk.d8;have HS:=Um (show S.busy no=(S.ds.drop 1).any (fun d=>S.within d.over no) from rfl);have HA:=Um (fun w1 (ar:Up w w1) x=>Aa (h.ak ar) hk hl x no);have hb:=h.bd;rw[hdv] at hb;have HB:=Um hb;have HC:=Um (fun k (hk:k<S.ds.length)=>(hc k hk).c1);have HD:=Um (fun k (hk:k<S.ds.length)=>xB (S:=S) (no:=no) hk);obtain⟨m,hm⟩:∃m,S.ds.length=m:=⟨_,rfl⟩;have HM:=Um hm;rw[hm] at HB hle yD Nl;generalize S.busy no=out at HS⊢;clear h hk hdv hb hc hm;go_enter Tryz.func138,Tryz.ntmps138;go_wp2_with fail
 go_loopw [5] (fun t5 wr=>∃(k:Nat),1≤k∧k≤m∧t5=.int .i64 k∧out=(S.ds.drop k).any (fun d=>S.within d.over no)∧Up w wr) (fun t5 _=>m-(intOf t5).toNat)
 case atStart=>exact⟨1,aa _,yD,rfl,HS.o,Below.refl _ _⟩
 case round=>
  obtain⟨k,gP,ig,rfl,hE,hbw⟩:=hrel;have HE:=Um hE;have je:=Um hbw;obtain⟨bc,-,-⟩:=(HB.o.ak hbw).facts;clear hE;by_cases hlt:k<m
  ·have hkl:k<S.ds.length:=by rw[HM.o];exact hlt
   have cc:=(hbw.cell (p:=⟨g,k*6+1,none⟩) hgl).trans (HC.o k hkl);have cq:=Um (HE.o.trans (HD.o k hkl));have zi:=Um (HA.o wr je.o S.ds[k].over);generalize S.ds[k].over=ov at cc cq zi;clear hbw hkl
   cases hwn:S.within ov no with
   |true=>
    rw[hwn] at cq zi;have HO:=Um (show out=true from cq.o);go_wp2_with fail;refine zi.o.mono ?_;rintro e w1 ⟨rfl,ar⟩;have cM:=Um (ao je.o ar);clear ar;go_wp2_with fail;go_ret;rw[HO.o];exact⟨rfl,cM.o⟩
   |false=>
    rw[hwn] at cq zi;have HO:=Um (show out=(S.ds.drop (k+1)).any (fun d=>S.within d.over no) by rw[cq.o];rfl);go_wp2_with fail;refine zi.o.mono ?_;rintro e w1 ⟨rfl,ar⟩;have cM:=Um (ao je.o ar);clear ar;go_wp2_with fail;go_roundw
    case rel=>exact⟨k+1,by omega,by omega,by go_num,HO.o,cM.o⟩
    case measure=>simp[intOf];omega
  ·obtain rfl:k=m:=by omega
   have HO:=Um (show out=false by rw[HE.o,←HM.o,List.drop_length];rfl);clear hbw;go_wp2_with fail;go_ret;rw[HO.o];exact⟨rfl,je.o⟩
end
end
section
open Go.RowKit
theorem DS{s:ByteArray}(h:s.toList.isEmpty=true):s=ByteArray.empty:=p' (by rw[aC] at h;exact List.isEmpty_iff.1 h)
theorem NP{s:ByteArray}(h:s.size=0):s=ByteArray.empty:=p' (List.eq_nil_of_length_eq_zero (by rw[Array.length_toList];exact h))
theorem Tu:ByteArray.empty.toList.isEmpty=true:=by rw[aC];rfl
def sY(o:Option ByteArray):Value:=.tuple #[.string (o.getD ByteArray.empty),.bool o.isSome]
def pI(l:List En)(no:Int):ByteArray:=(cP l no).getD ByteArray.empty
theorem Gq(x:En)(l:List En)(no:Int):pI (x::l) no=if x.no=no then x.name else pI l no:=by
 unfold pI;rw[pY]
 split<;>rfl
theorem Gm{l:List En}{no:Int}(h:∀x∈l,uZ x.name)(hne:(pI l no).toList.isEmpty=false):cP l no=some (pI l no)∧(pI l no).size≤255:=by
 unfold pI at hne⊢
 cases he:cP l no with
 |none=>rw[he,show(none:Option ByteArray).getD ByteArray.empty=ByteArray.empty from rfl,Tu] at hne;cases hne
 |some s=>
  obtain⟨x,hx,rfl⟩:=mL he;exact⟨rfl,(h x hx).2⟩
theorem Gp{l:List En}{no:Int}(h:∀x∈l,uZ x.name)(hne:(pI l no).toList.isEmpty=true):cP l no=none:=by
 unfold pI at hne
 cases he:cP l no with
 |none=>rfl
 |some s=>
  obtain⟨x,hx,rfl⟩:=mL he;rw[he] at hne;exact absurd (DS hne) (h x hx).1
section
variable{w w':World}{pf:Nat}{R:Rf}{S:Fs}
theorem DH(hp:Pl S)(k:Int):∀x∈S.dg k,uZ x.name:=by
 intro x hx;unfold Fs.dg at hx
 cases hg:S.get k with
 |none=>rw[hg] at hx;cases hx
 |some a=>rw[hg] at hx;exact hp.names a (cx hg) x hx
theorem O7(h:aE w pf R S)(k:Int):∃a ea el ec,aA w ea el ec a.aB∧a.aB=S.dg k∧(S.get k=some a∨(S.get k=none∧a=dh))∧
  ∀w1,Up w w1→Calls Tryz.prog 41 #[.pointer (some ⟨pf,0,none⟩),.int .i64 k] w1 fun e w'=>e=.returned (.agg #[.int .i64 a.no,.int .i64 a.dev,.int .i64 a.kind,.int .i64 a.mode,.int .i64 a.uid,.int .i64 a.gid,.int .i64 a.mtime,.int .i64 a.ctime,.int .i64 a.an,.int .i64 a.up,.string a.data,.slice ea el ec])∧Up w1 w':=by
 cases hg:S.get k with
 |none=>exact⟨dh,none,0,0,aA.nil w,by unfold Fs.dg;rw[hg];rfl,.inr ⟨rfl,rfl⟩,fun w1 hb=>jh (h.ak hb) hg⟩
 |some a=>
  obtain⟨ea,el,ec,he,hc⟩:=fe h hg;exact⟨a,ea,el,ec,he,by unfold Fs.dg;rw[hg],.inl rfl,hc⟩
theorem NO{no:Int}{a:An}(h:S.get no=some a∨(S.get no=none∧a=dh)):S.child no=if S.root a.dev=no∧1<a.dev then(match S.dev a.dev with|some v=>v.over|none=>no) else no:=by
 rcases h with h|⟨h,rfl⟩
 ·rw[p9,h];rfl
 ·rw[uO h,if_neg];rintro⟨-,h⟩
  cases h
theorem Ct(S:Fs)(n:Nat)(s:ByteArray):S.en (n+1) 1 s=some (if s.size=0 then jy else s):=by
 rw[Fs.en,if_pos rfl]
theorem zH{S:Fs}{n:Nat}{x:Int}(h1:x≠1)(s:ByteArray)(h:cP (S.dg (S.aQ x)) (S.child x)=none):S.en (n+1) x s=none:=by
 rw[Fs.en,if_neg h1,h]
theorem zG{S:Fs}{n:Nat}{x:Int}(h1:x≠1)(s:ByteArray){nm:ByteArray}(h:cP (S.dg (S.aQ x)) (S.child x)=some nm):S.en (n+1) x s=S.en n (S.aQ x) (jy++nm++s):=by
 rw[Fs.en,if_neg h1,h]
theorem CT(h:aE w pf R S){N:Nat}(hk:av S N)(hp:Pl S)(hl:S.ns.length≤100000)(no:Int) :
  Calls Tryz.prog 133 #[.pointer (some ⟨pf,0,none⟩),.int .i64 no] w fun e w'=>e=.returned (sY (S.fZ no))∧Up w w':=by
 obtain⟨na,nc,hnv,gO,jj⟩:=h.wN;obtain⟨g,cap,hdv,hle,sI,hgl,hcd,-,-⟩:=h.jm hk.d1;have yD:=hk.d1;have Nl:=hk.d8;have hlen:=h.len;have HS:=Um (show S.fZ no=S.en (S.ns.length+1) no ByteArray.empty from rfl);have HA:=Um (fun w1 (ar:Up w w1) x=>kS (h.ak ar) hk x);have sw:=Um (fun w1 (ar:Up w w1) x=>jq (h.ak ar) x);have HG:=Um (fun w1 (ar:Up w w1) x=>O7 (h.ak ar) x);have hb:=h.bd;rw[hnv,hdv] at hb;rw[←hlen] at hb gO;have HB:=Um hb;have HC:=Um (fun k (hk:k<S.ds.length)=>(hcd k hk).c1);have HK:=Um (ag hk hp);obtain⟨m,hm⟩:∃m,S.ds.length=m:=⟨_,rfl⟩;have HM:=Um hm;rw[hm] at HB hle yD Nl;generalize S.ns.length=n at HB gO HS hl;generalize S.fZ no=out at HS⊢;have mixed:Tryz.prog.follows .mixedOrders=true:=by kernel_rfl
 have Dq:(0:Int)<(m:Int):=by omega
 clear h hk hp hnv hdv hlen hb hcd hm;go_enter Tryz.func133,Tryz.ntmps133;go_wp2_with fail
 go_loopw [1,6,7] (fun t1 t6 t7 wr=>∃(k:Nat) (x:Int) (s:ByteArray),k≤n+1∧t1=.int .i64 x∧t6=.string s∧t7=.int .i64 k∧s.size≤256*k∧out=S.en (n+1-k) x s∧Up w wr) (fun _ _ t7 _=>n+1-(intOf t7).toNat)
 case atStart=>exact⟨0,no,ByteArray.empty,Nat.zero_le _,rfl,rfl,rfl,Nat.zero_le _,HS.o,Below.refl _ _⟩
 case round=>
  obtain⟨k,x,s,gP,rfl,rfl,rfl,hss,hE,hbw⟩:=hrel;have HE:=Um hE;have je:=Um hbw;obtain⟨bc,bf,bz⟩:=(HB.o.ak hbw).facts;clear hE;by_cases hlt:k≤n
  ·have uk:(k:Int)≤(n:Int):=by omega
   have fX:=Um (show out=S.en ((n+1-(k+1))+1) x s by rw[HE.o,show n+1-k=(n+1-(k+1))+1 by omega]);by_cases h1:x=1
   ·subst h1;have cq:=Um (fX.o.trans (Ct S _ s));clear hbw
    cases hse:s.toList.isEmpty with
    |true=>
     have J3:s=ByteArray.empty:=DS hse;subst J3;have HO:=Um (show out=some jy from cq.o);go_wp2_with fail;go_ret2;rw[HO.o];exact⟨rfl,je.o⟩
    |false=>
     have hsn:(s.toList==[])=false:=by
      cases hq:s.toList with
      |nil=>rw[hq] at hse;cases hse
      |cons _ _=>rfl
     have HO:=Um (show out=some s by
      rw[cq.o,if_neg];intro h0;rw[NP h0,Tu] at hse
      cases hse)
     go_wp2_with fail;go_ret2;rw[HO.o];exact⟨rfl,je.o⟩
   ·have p1:(x==1)=false:=by simpa using h1
    have H1:=Um h1;have zi:=Um (HA.o wr je.o x);clear h1;go_wp2_with fail;refine zi.o.mono ?_;rintro e w1 ⟨rfl,ar⟩;have cM:=Um (ao je.o ar);obtain⟨a,ea,el,ec,-,-,hga,hcg⟩:=HG.o w1 cM.o x;have L9:=Um (hcg w1 (Below.refl _ _));have OR:=Um (NO hga);have Rs:=Um hga;clear ar hcg hga bc bf bz zi;go_wp2_with fail;refine L9.o.mono ?_;rintro e w2 ⟨rfl,aD⟩;have ax:=al (ao cM.o aD) (.cells #[.int .i64 a.no,.int .i64 a.dev,.int .i64 a.kind,.int .i64 a.mode,.int .i64 a.uid,.int .i64 a.gid,.int .i64 a.mtime,.int .i64 a.ctime,.int .i64 a.an,.int .i64 a.up,.string a.data,.slice ea el ec] 99);have hX:=au.new w2 #[.int .i64 a.no,.int .i64 a.dev,.int .i64 a.kind,.int .i64 a.mode,.int .i64 a.uid,.int .i64 a.gid,.int .i64 a.mtime,.int .i64 a.ctime,.int .i64 a.an,.int .i64 a.up,.string a.data,.slice ea el ec] 99;clear aD L9;go_upto_region 11 with fail;generalize w2.alloc _=X at ax hX⊢;have aJ:=Um ax;obtain⟨xc,xf,xz⟩:=hX.facts;obtain⟨bc,bf,bz⟩:=(HB.o.ak ax).facts;generalize hch:S.child x=ch at OR;have Qy:=Um hch;clear hch
    go_cut [53] from 14 to 93 (fun t53 wx=>t53=.bool (decide (S.root a.dev=x∧1<a.dev))∧wx=X)
    case first=>
     by_cases h2:1<a.dev
     ·have TL:=Um (sw.o X aJ.o a.dev);have HD:=Um (show decide (S.root a.dev=x∧1<a.dev)=(S.root a.dev==x) by
       by_cases h3:S.root a.dev=x
       ·rw[decide_eq_true ⟨h3,h2⟩];exact(beq_iff_eq.2 h3).symm
       ·rw[decide_eq_false (fun h=>h3 h.1)];exact(beq_eq_false_iff_ne.2 h3).symm)
      generalize hrt:S.root a.dev=rt at TL;have D4:=Um hrt;clear ax hX hrt;go_wp2_with fail;refine TL.o.mono ?_;rintro e w3 ⟨rfl,rfl⟩;go_wp2_with fail;go_meet;exact⟨by rw[HD.o,D4.o],rfl⟩
     ·have HD:=Um (show decide (S.root a.dev=x∧1<a.dev)=false by simp[h2]);clear ax hX;go_wp2_with fail;go_meet;exact⟨by rw[HD.o],rfl⟩
    case rest=>
    obtain⟨rfl,rfl⟩:=hcut
    go_step
    go_cut [9] from 14 to 93 (fun t9 wx=>t9=.int .i64 ch∧Up w wx)
    case first=>
     by_cases h2:S.root a.dev=x∧1<a.dev
     ·have q3:decide (S.root a.dev=x∧1<a.dev)=true:=decide_eq_true h2;have hdl:a.dev≤(m:Int):=by
       rcases Rs.o with hg|⟨hg,rfl⟩
       ·have:=(HK.o.1.get hg).1.dev.2;rw[HM.o] at this;exact this
       ·exact absurd h2.2 (by decide)
      have kA:=h2.2;obtain⟨j,hj⟩:∃j:Nat,a.dev=(j:Int)+1:=⟨(a.dev-1).toNat,by omega⟩;have hjl:j<S.ds.length:=by rw[HM.o];omega
      have hv:S.dev a.dev=some S.ds[j]:=by
       unfold Fs.dev;rw[if_pos (by omega),hj,show((j:Int)+1-1).toNat=j by omega,List.getElem?_eq_getElem hjl]
      have HO:=Um (show ch=S.ds[j].over by rw[OR.o,if_pos h2,hv]);have cc:=(ax.cell (p:=⟨g,j*6+1,none⟩) hgl).trans (HC.o j hjl);generalize S.ds[j].over=ov at cc HO;have J7:g<wc.heap.size:=Nat.lt_of_lt_of_le hgl ax.size;have Sg:IntKind.i64.wrap ((j:Int)+1-1)=(j:Int):=by simp[IntKind.wrap,IntKind.bits,IntKind.signed];omega
      have Sf:IntKind.i64.wrap (j:Int)=(j:Int):=by simp[IntKind.wrap,IntKind.bits,IntKind.signed];omega
      have Ng:(0:Int)≤(j:Int)∧(j:Int)<(m:Int)∧((j:Int)).toNat=j:=by omega
      obtain⟨hk1',hk2',hk3'⟩:=Ng;generalize decide (S.root a.dev=x∧1<a.dev)=dd at q3⊢;clear hdl hv ax hX hjl h2 kA;rw[hj] at xc;subst q3;go_wp2_with fail
      go_quiet (fail)
      go_wp2_with fail;go_meet;exact⟨by rw[HO.o],below_drewN aJ.o _⟩
     ·have q3:decide (S.root a.dev=x∧1<a.dev)=false:=decide_eq_false h2;have HO:=Um (OR.o.trans (if_neg h2));generalize decide (S.root a.dev=x∧1<a.dev)=dd at q3⊢;subst q3;clear h2 ax hX;go_wp2_with fail;go_meet;exact⟨by rw[HO.o],aJ.o⟩
    case rest=>
     obtain⟨rfl,hbx⟩:=hcut;have HBx:=Um hbx;obtain⟨a2,fa,fl,fc,hents,hee,-,hcg⟩:=HG.o wc hbx (S.aQ x);have L9:=Um (hcg wc (Below.refl _ _));have sx:=Um (DH HK.o.2 (S.aQ x));have HWn:=Um (zH (S:=S) (n:=n+1-(k+1)) H1.o s);have EW:=Um (fun nm=>zG (S:=S) (n:=n+1-(k+1)) H1.o s (nm:=nm));rw[←hee] at sx HWn EW;rw[Qy.o] at HWn EW;have hfd:∀(a:An) (w:World),(Instr.field 99 (.agg #[.int .i64 a.no,.int .i64 a.dev,.int .i64 a.kind,.int .i64 a.mode,.int .i64 a.uid,.int .i64 a.gid,.int .i64 a.mtime,.int .i64 a.ctime,.int .i64 a.an,.int .i64 a.up,.string a.data,.slice fa fl fc]) 11).run Tryz.prog w=.ok (.slice fa fl fc) w:=fun _ _=>by kernel_rfl
     generalize a2.aB=es at hents sx HWn EW;have hln:=hents.len;subst hln;have Ly:=Um hents;have hec1:=hents.sl.2.1;have hec2:=hents.sl.2.2.1;clear hbx hcg hents hee xc xf xz bc bf bz ax hX;go_wp2_with fail;refine L9.o.mono ?_;rintro e w3 ⟨rfl,bJ⟩;have ez:=Um (ao HBx.o bJ);have vg:=Um (Ly.o.ak bJ);clear bJ;go_wp2_with fail
     go_loopw [12,13] (fun t12 t13 w4=>∃i:Int,-1≤i∧i<es.length∧t13=.int .i64 i∧t12=.string (pI (es.drop (i+1).toNat) ch)∧w4=w3) (fun _ t13 _=>(intOf t13+1).toNat)
     case atStart=>exact⟨(es.length:Int)-1,by omega,by omega,by go_num,by rw[show((es.length:Int)-1+1).toNat=es.length by omega,List.drop_length];rfl,rfl⟩
     case round=>
      obtain⟨i,Nh,Dt,rfl,rfl,rfl⟩:=hrel;by_cases h0:0≤i
      ·obtain⟨j,rfl⟩:=Int.eq_ofNat_of_zero_le h0;have hjl:j<es.length:=by omega
       have hge:(0:Int)≤(j:Int):=h0;have hgj:(j:Int)<(es.length:Int):=Dt;obtain⟨b,off,rfl,hbl⟩:=vg.o.ey (by omega);obtain⟨c0,c1⟩:=vg.o.cell j hjl;have HQ:=Um (show pI (es.drop ((j:Int)-1+1).toNat) ch=if es[j].no=ch then es[j].name else pI (es.drop ((j:Int)+1).toNat) ch by
        rw[show((j:Int)-1+1).toNat=j by omega,show((j:Int)+1).toNat=j+1 by omega,List.drop_eq_getElem_cons hjl,Gq])
       generalize es[j]=y at c0 c1 HQ;generalize pI (es.drop ((j:Int)+1).toNat) ch=eE at HQ⊢;clear h0;by_cases hy:y.no=ch
       ·have py:(y.no==ch)=true:=by simpa using hy
        have HO:=Um (HQ.o.trans (if_pos hy));clear hy;go_wp2_with fail;go_roundw
        case measure=>simp[intOf]
        case rel=>exact⟨(j:Int)-1,by omega,by omega,by go_num,by rw[HO.o],by trivial⟩
       ·have py:(y.no==ch)=false:=by simpa using hy
        have HO:=Um (HQ.o.trans (if_neg hy));clear hy;go_wp2_with fail;go_roundw
        case measure=>simp[intOf]
        case rel=>exact⟨(j:Int)-1,by omega,by omega,by go_num,by rw[HO.o],by trivial⟩
      ·obtain rfl:i=-1:=by omega
       rw[show((-1:Int)+1).toNat=0 from rfl,List.drop_zero];have TD:=Um (Gp (no:=ch) sx.o);have NV:=Um (Gm (no:=ch) sx.o);generalize pI es ch=nm at TD NV⊢;clear h0 Nh Dt
       cases hne:nm.toList.isEmpty with
       |true=>
        have HO:=Um (show out=none by rw[fX.o];exact HWn.o (TD.o hne));obtain rfl:nm=ByteArray.empty:=DS hne;go_wp2_with fail;go_ret2;rw[HO.o];exact⟨rfl,ez.o⟩
       |false=>
        have HO:=Um (show out=S.en (n+1-(k+1)) (S.aQ x) (jy++nm++s) by rw[fX.o];exact EW.o nm (NV.o hne).1);have hnsz:=(NV.o hne).2;have hsn:(nm.toList==[])=false:=by
         cases hq:nm.toList with
         |nil=>rw[hq] at hne;cases hne
         |cons _ _=>rfl
        have J3:¬9223372036854775807<1+nm.size:=by omega
        have Dl:¬9223372036854775807<(ByteArray.mk #[47]++nm).size+s.size:=by rw[ByteArray.size_append];show¬9223372036854775807<1+nm.size+s.size;omega
        clear TD NV;go_wp2_with fail;go_roundw
        case measure=>simp[intOf];omega
        case rel=>
         refine⟨k+1,S.aQ x,jy++nm++s,by omega,rfl,rfl,by go_num,?_,HO.o,ez.o⟩;rw[ByteArray.size_append,ByteArray.size_append];show 1+nm.size+s.size≤_;omega
  ·have hkn:k=n+1:=by omega
   subst hkn;have hgt:¬((n:Int)+1≤(n:Int)):=by omega
   have HO:=Um (show out=none by rw[HE.o,Nat.sub_self];rfl);clear hbw;go_wp2_with fail;go_ret2;rw[HO.o];exact⟨rfl,je.o⟩
end
end
end Go.Proofs.YtinflmadpnigfaaGreatDoor
