import Derived.Test.YtihdbncoijhihaaGreatDoorSN10
import Derived.Test.YtihdbncoijhihaaGreatDoorSN12
import Derived.Test.YtihdbncoijhihaaGreatDoorSN9
set_option linter.unusedVariables false
set_option linter.unusedSimpArgs false
set_option maxRecDepth 100000
set_option maxHeartbeats 16000000
namespace Go.Proofs.YtihdbncoijhihaaGreatDoor
section
open Go.RowKit
structure Rf.Like (R R':Rf):Prop where
 now:R'.now=R.now
 cnt:R'.cnt=R.cnt
 pl:R'.pl=R.pl
 dd:R'.dd=R.dd
theorem Rf.Like.refl (R:Rf):Rf.Like R R:=⟨rfl,rfl,rfl,rfl⟩
theorem Rf.Like.trans {A B C:Rf} (h:Rf.Like A B) (k:Rf.Like B C):Rf.Like A C:=⟨k.now.trans h.now,k.cnt.trans h.cnt,k.pl.trans h.pl,k.dd.trans h.dd⟩
theorem map_put {S:Fs} (hn:Nums S) {G:List Gn} (hG:S.ns=G.map (·.a)) {i:Nat} (hi:i<G.length) {a:An} (hno:G[i].a.no=a.no) {y:Gn} (hy:y.a=a):(S.set a).ns=(G.set i y).map (·.a):=by
 have hr:=hn.rise;rw [hG] at hr;show (S.ns.map _)=_;rw [hG];apply List.ext_getElem
 ·simp
 ·intro j h1 h2;have hj:j<G.length:=by simpa using h1
  simp only [List.getElem_map,List.getElem_set];by_cases hij:i=j
  ·subst hij;rw [if_pos rfl,hno];simp [hy]
  ·rw [if_neg hij,if_neg];have key:=List.pairwise_iff_getElem.1 hr;simp only [List.length_map,List.getElem_map] at key;simp only [beq_iff_eq];rcases Nat.lt_or_gt_of_ne hij with h | h
   ·have:=key i j (by simpa using hi) (by simpa using hj) h;omega
   ·have:=key j i (by simpa using hj) (by simpa using hi) h;omega
theorem putRow12 (w:World) (g o:Nat) (v0 v1 v2 v3 v4 v5 v6 v7 v8 v9 v10 v11:Value):putRow w g o [v0,v1,v2,v3,v4,v5,v6,v7,v8,v9,v10,v11]=(((((((((((w.setCell ⟨g,o,none⟩ v0).setCell ⟨g,o+1,none⟩ v1).setCell ⟨g,o+2,none⟩ v2).setCell ⟨g,o+3,none⟩ v3).setCell ⟨g,o+4,none⟩ v4).setCell ⟨g,o+5,none⟩ v5).setCell ⟨g,o+6,none⟩ v6).setCell ⟨g,o+7,none⟩ v7).setCell ⟨g,o+8,none⟩ v8).setCell ⟨g,o+9,none⟩ v9).setCell ⟨g,o+10,none⟩ v10).setCell ⟨g,o+11,none⟩ v11:=rfl
section
variable {w w':World} {pf:Nat} {R:Rf} {S:Fs}
theorem rf_apart {g:Nat} {e:TypeId} (hk:∃ cur,w.heap[g]? = some (.cells cur e (0,0))) {x:Nat} {vs:Array Value} {T:TypeId} (hx:Blk w x vs T) (hT:T≠e):x≠g:=by
 rintro rfl;obtain⟨cur,hc⟩:=hk;unfold Blk at hx;rw [hx] at hc;injection hc with hc;injection hc with _ hc;exact hT hc
theorem RfAt.put (h:RfAt w pf R S) (hn:Nums S) {g cap:Nat} (hv:R.nv=.slice (some ⟨g,0,none⟩) R.G.length cap) {i:Nat} (hi:i<R.G.length) {a:An} {ea:Option Addr} {el ec:Nat} (hno:R.G[i].a.no=a.no) (he:EntsAt w ea el ec a.ents) :
  RfAt (putRow w g (i*12) [.int .i64 a.no,.int .i64 a.dev,.int .i64 a.kind,.int .i64 a.mode,.int .i64 a.uid,.int .i64 a.gid,.int .i64 a.mtime,.int .i64 a.ctime,.int .i64 a.links,.int .i64 a.up,.string a.data,.slice ea el ec]) pf {R with G:=R.G.set i ⟨a,ea,el,ec,0⟩} (S.set a)∧Mod (R.F pf) w (putRow w g (i*12) [.int .i64 a.no,.int .i64 a.dev,.int .i64 a.kind,.int .i64 a.mode,.int .i64 a.uid,.int .i64 a.gid,.int .i64 a.mtime,.int .i64 a.ctime,.int .i64 a.links,.int .i64 a.up,.string a.data,.slice ea el ec]):=by
 have hgb:R.nv.ownBlock=some g:=by rw [hv];rfl
 have hm:=putRow_mod (g:=g) [.int .i64 a.no,.int .i64 a.dev,.int .i64 a.kind,.int .i64 a.mode,.int .i64 a.uid,.int .i64 a.gid,.int .i64 a.mtime,.int .i64 a.ctime,.int .i64 a.links,.int .i64 a.up,.string a.data,.slice ea el ec] w (i*12);have hM:Mod (R.F pf) w (putRow w g (i*12) [.int .i64 a.no,.int .i64 a.dev,.int .i64 a.kind,.int .i64 a.mode,.int .i64 a.uid,.int .i64 a.gid,.int .i64 a.mtime,.int .i64 a.ctime,.int .i64 a.links,.int .i64 a.up,.string a.data,.slice ea el ec]):=hm.mono (fun k hk=>.inr (.inl (by rw [hk];exact hgb)));obtain⟨-,hcur⟩:=own_obj1 h.nds hgb;have hst:Stp (R.F pf) (R.F pf) w (putRow w g (i*12) [.int .i64 a.no,.int .i64 a.dev,.int .i64 a.kind,.int .i64 a.mode,.int .i64 a.uid,.int .i64 a.gid,.int .i64 a.mtime,.int .i64 a.ctime,.int .i64 a.links,.int .i64 a.up,.string a.data,.slice ea el ec]):=Stp.of_mod hM;refine ⟨⟨h.blk.mod hm (rf_apart hcur h.blk (by decide)),?_,own_mod h.devs hm (fun k hk e=>?_),map_put hn h.ns hi hno rfl,fun x hx=>?_⟩,hM⟩
 ·show World.ownsRow _ 0 109 12 R.nv (R.G.set i _).length ((R.G.set i _).flatMap Gn.cs);rw [List.length_set];have h0:=h.nds;rw [hv] at h0 ⊢;exact own_put (enc:=Gn.cs) (by omega) Gn.cs_len h0 i hi ⟨a,ea,el,ec,0⟩
 ·obtain ⟨-,cur2,hc2⟩:=own_obj1 h.devs e;rw [hk] at hc2;exact rf_apart hcur (show Blk w g cur2 170 from hc2) (by decide) rfl
 ·rcases List.mem_or_eq_of_mem_set hx with hx | rfl
  ·exact (h.ents x hx).rf h hst
  ·exact he.rf h hst
theorem rset_any (h:RfAt w pf R S) (hn:Nums S) {a:An} {ea:Option Addr} {el ec:Nat} (he:EntsAt w ea el ec a.ents) {b:An} (hb:S.get a.no=some b) :
  Calls Tryz.prog 209 #[.pointer (some ⟨pf,0,none⟩),a.v ea el ec] w fun e w'=>e=.returned (.tuple #[])∧∃ R',RfAt w' pf R' (S.set a)∧Stp (R.F pf) (R'.F pf) w w'∧Rf.Like R R'∧R'.dv=R.dv:=by
 rcases place_get h a.no with ⟨i,hi,hp,-,hno⟩|⟨-,hg2⟩
 ·have hb0:=balloc (Below.refl w.heap.size w) (.cells #[.int .i64 a.no,.int .i64 a.dev,.int .i64 a.kind,.int .i64 a.mode,.int .i64 a.uid,.int .i64 a.gid,.int .i64 a.mtime,.int .i64 a.ctime,.int .i64 a.links,.int .i64 a.up,.string a.data,.slice ea el ec] 109);have hq0:=Blk.new w #[.int .i64 a.no,.int .i64 a.dev,.int .i64 a.kind,.int .i64 a.mode,.int .i64 a.uid,.int .i64 a.gid,.int .i64 a.mtime,.int .i64 a.ctime,.int .i64 a.links,.int .i64 a.up,.string a.data,.slice ea el ec] 109;have HAt:=Lib.hid (rat_any (h.keep ((Below.refl _ w).alloc (Nat.le_refl _) (.cells #[.int .i64 a.no,.int .i64 a.dev,.int .i64 a.kind,.int .i64 a.mode,.int .i64 a.uid,.int .i64 a.gid,.int .i64 a.mtime,.int .i64 a.ctime,.int .i64 a.links,.int .i64 a.up,.string a.data,.slice ea el ec] 109))) a.no);rw [hp] at HAt;obtain⟨g,cap,hnv,hcap,hcap2,hgl,hc,hfz,cur,hcur⟩:=h.nodeF (by omega);have HP:=Lib.hid (fun w1 (hb:Below w.heap.size w w1)=>(h.keep hb).put hn hnv hi hno (he.keep hb));obtain⟨pc,-,pz⟩:=h.blk.facts;rw [hnv] at pc;have HCur:=Lib.hid hcur;obtain⟨n,hn2⟩:∃ n,R.G.length=n:=⟨_,rfl⟩;rw [hn2] at pc hcap;have hin:i<n:=by omega
  have HQ0:=Lib.hid hq0;have HB0:=Lib.hid hb0;have mixed:Tryz.prog.follows .mixedOrders=true:=by kernel_rfl
  obtain⟨y,y1,y2,y3,c0,c1,c2,c3,c4,c5,c6,c7,c8,c9,c10,c11⟩:∃ (y:An) (y1:Option Addr) (y2 y3:Nat),NdC w g (i*12) y y1 y2 y3:=⟨_,_,_,_,hc i hi⟩;have HC:=Lib.hid (fun w1 (hb:Below w.heap.size w w1)=>And.intro (hb.cell (p:=⟨g,i*12,none⟩) hgl) (fun j=>hb.cell (p:=⟨g,i*12+j,none⟩) hgl));unfold An.v;clear h hn he hb hp hnv hc hi hno hn2 hq0 hb0 hcur hfz;go_enter Tryz.func209,Tryz.ntmps209;have hq0:=HQ0.out;obtain⟨qc,qf,qz⟩:=hq0.facts;clear hq0;go_wp2_with fail;refine HAt.out.mono ?_;rintro e w1 ⟨rfl,hb1⟩;have hq1:=HQ0.out.keep hb1;have hb2:=bnext HB0.out hb1;obtain⟨d0,dd⟩:=HC.out w1 hb2;rw [←d0] at c0;rw [←dd 1] at c1;rw [←dd 2] at c2;rw [←dd 3] at c3;rw [←dd 4] at c4;rw [←dd 5] at c5;rw [←dd 6] at c6;rw [←dd 7] at c7;rw [←dd 8] at c8;rw [←dd 9] at c9;rw [←dd 10] at c10;rw [←dd 11] at c11;have hg1:g<w1.heap.size:=Nat.lt_of_lt_of_le hgl hb2.size;have hfz1:=(HCur.out.keep hb2).frozen;have pc2:=fun i=>(hb2.cell (p:=⟨pf,i,none⟩) pz).trans (pc i);have HB2:=Lib.hid hb2;clear qc qf qz;obtain⟨qc,qf,qz⟩:=hq1.facts;clear hq1 hb1 hb2 d0 dd pc;go_wp2_with fail;refine wp_region_lex 7 mixed (by kernel_rfl) (show PanicOk _ from by repeat (first | exact pk_body | refine pk_then ?_ | refine pk_block ?_ | refine pk_scope ?_)) ?_;simp only [List.take_succ_cons,List.take_zero,List.drop_succ_cons,List.drop_zero]
  repeat still_step
  refine wpStill_nil ?_;go_wp2_with fail
  go_end0
  obtain⟨hR,hM⟩:=HP.out _ HB2.out;rw [putRow12] at hR hM;exact⟨rfl,_,hR.keep ((Below.refl _ _).drew),(Stp.of_below HB2.out).trans (Stp.of_mod hM.drew),⟨rfl,rfl,rfl,rfl⟩,rfl⟩
 ·rw [hb] at hg2;cases hg2
end
end
section
open Go.RowKit
theorem node_info:(Tryz.prog.info? 109).map (fun i=>(i.zero,i.size,i.bytes))=some (some (.agg #[.int .i64 0,.int .i64 0,.int .i64 0,.int .i64 0,.int .i64 0,.int .i64 0,.int .i64 0,.int .i64 0,.int .i64 0,.int .i64 0,.string ByteArray.empty,.slice none 0 0]),12,120):=by kernel_rfl
theorem rdev_info:(Tryz.prog.info? 170).map (fun i=>(i.zero,i.size,i.bytes))=some (some (.agg #[.int .i64 0,.int .i64 0,.int .i64 0,.int .i64 0,.int .i64 0,.int .i64 0]),6,48):=by kernel_rfl
section
variable {w w':World} {pf:Nat} {R:Rf} {S:Fs}
theorem RfAt.aside (h:RfAt w pf R S) {B:Nat} {vs:Array Value} {T:TypeId} (hB:Blk w B vs T) (hF:¬ R.F pf B) (hT:T≠113) (i:Nat) (v:Value):RfAt (w.setCell ⟨B,i,none⟩ v) pf R S:=by
 have hm:Mod (fun k=>k=B) w (w.setCell ⟨B,i,none⟩ v):=(Mod.refl (fun k=>k=B) w).setCell (a:=⟨B,i,none⟩) (.inl rfl) v;refine h.turn (fun k hk=>hm.block k (h.lt hk) (fun e=>hF (e ▸ hk))) (fun b cur hc=>hm.block b (Array.getElem?_eq_some_iff.1 hc).1 (fun e=>?_)) hm.size;subst e;unfold Blk at hB;rw [hB] at hc;injection hc with hc;injection hc with _ hc;exact hT hc
theorem RfAt.setLast (h:RfAt w pf R S) (v:Int):RfAt (w.setCell ⟨pf,2,none⟩ (.int .i64 v)) pf R {S with last:=v}∧Mod (R.F pf) w (w.setCell ⟨pf,2,none⟩ (.int .i64 v)):=by
 have hm:Mod (fun k=>k=pf) w (w.setCell ⟨pf,2,none⟩ (.int .i64 v)):=(Mod.refl (fun k=>k=pf) w).setCell (a:=⟨pf,2,none⟩) (.inl rfl) _;have hM:Mod (R.F pf) w (w.setCell ⟨pf,2,none⟩ (.int .i64 v)):=hm.mono (fun k hk=>.inl hk);refine ⟨⟨h.blk.set 2 _,own_mod h.nds hm (fun k hk e=>?_),own_mod h.devs hm (fun k hk e=>?_),h.ns,fun x hx=>(h.ents x hx).rf h (Stp.of_mod hM)⟩,hM⟩
 ·obtain ⟨-,hc⟩:=own_obj1 h.nds e;exact rf_apart hc h.blk (by decide) hk.symm
 ·obtain ⟨-,hc⟩:=own_obj1 h.devs e;exact rf_apart hc h.blk (by decide) hk.symm
theorem RfAt.appN (h:RfAt w pf R S) (hl:R.G.length≤1000000) (ad:Addr) (y:Gn) (had:∀ j u,(Gn.cs y)[j]? = some u→w.cell? (ad.add j)=some u) (he:EntsAt w y.ea y.el y.ec y.a.ents) :
  ∃ g cap W,(Builtin.append_ #[41,41] 41 #[R.nv,.slice (some ad) 1 1]).run Tryz.prog w=.ok (.slice (some ⟨g,0,none⟩) (R.G.length+1) cap) W∧
   RfAt (W.setCell ⟨pf,0,none⟩ (.slice (some ⟨g,0,none⟩) (R.G.length+1) cap)) pf {R with nv:=.slice (some ⟨g,0,none⟩) (R.G.length+1) cap,G:=R.G ++ [y]} {S with ns:=S.ns ++ [y.a]}∧
   Stp (R.F pf) (Rf.F {R with nv:=.slice (some ⟨g,0,none⟩) (R.G.length+1) cap,G:=R.G ++ [y]} pf) w (W.setCell ⟨pf,0,none⟩ (.slice (some ⟨g,0,none⟩) (R.G.length+1) cap))∧
   Blk W pf #[R.nv,R.dv,.int .i64 S.last,.int .i64 R.now,R.cnt,R.pl,R.dd] 44∧Mod (fun k=>R.nv.ownBlock=some k) w W:=by
 obtain⟨i0,hi,hz0,hz1,hz2⟩:=info_parts node_info;obtain⟨g,cap,W,h1,h2,h3,h4⟩:=step_app (41) Tryz.underlying41 hi hz0 hz1 hz2 rfl (by omega) h.nds ad 1 1 (Gn.cs y) rfl had (by intro u hu;simp [Gn.cs] at hu;rcases hu with rfl | rfl | rfl | rfl | rfl | rfl | rfl | rfl | rfl | rfl | rfl | rfl <;> rfl) (by omega) (by unfold maxLen;omega) (by omega) (Nat.zero_le _);have hM:Mod (R.F pf) w W:=h3.mono (fun k hk=>.inr (.inl hk));have hbW:Blk W pf #[R.nv,R.dv,.int .i64 S.last,.int .i64 R.now,R.cnt,R.pl,R.dd] 44:=h.blk.mod h3 (fun hk=>by
  obtain⟨-,hc⟩:=own_obj1 h.nds hk;exact rf_apart hc h.blk (by decide) rfl)
 have hpg:pf≠g:=by
  rintro rfl;rcases h4 with h4 | h4
  ·obtain ⟨-,hc⟩:=own_obj1 h.nds h4;exact rf_apart hc h.blk (by decide) rfl
  ·have:=h.blk.lt;omega
 have hs2:Stp (R.F pf) (R.F pf) w (W.setCell ⟨pf,0,none⟩ (.slice (some ⟨g,0,none⟩) (R.G.length+1) cap)):=Stp.of_mod (hM.setCell (.inl (.inl rfl)) _);have hmp:Mod (fun k=>k=pf) W (W.setCell ⟨pf,0,none⟩ (.slice (some ⟨g,0,none⟩) (R.G.length+1) cap)):=(Mod.refl (fun k=>k=pf) W).setCell (a:=⟨pf,0,none⟩) (.inl rfl) _;refine ⟨g,cap,W,h1,⟨hbW.set 0 _,?_,?_,by rw [h.ns,List.map_append];rfl,fun x hx=>?_⟩,⟨hs2.mod,fun k hk=>?_⟩,hbW,h3⟩
 ·show World.ownsRow _ 0 109 12 _ (R.G ++ [y]).length ((R.G ++ [y]).flatMap Gn.cs);rw [List.length_append,List.length_singleton,List.flatMap_append,List.flatMap_singleton];refine own_mod h2 hmp (fun k hk e=>?_);subst hk;simp only [Value.ownBlock,Option.some.injEq] at e;exact hpg e.symm
 ·refine own_mod (own_mod h.devs h3 (fun k hk e=>?_)) hmp (fun k hk e=>?_)
  ·obtain ⟨-,hc⟩:=own_obj1 h.nds hk;obtain⟨-,cur,hc2⟩:=own_obj1 h.devs e;exact rf_apart hc (show Blk w k cur 170 from hc2) (by decide) rfl
  ·obtain ⟨-,hc⟩:=own_obj1 h.devs e;exact rf_apart hc h.blk (by decide) hk.symm
 ·rcases List.mem_append.1 hx with hx | hx
  ·exact (h.ents x hx).rf h hs2
  ·rw [List.mem_singleton] at hx;subst hx;exact he.rf h hs2
 ·rcases hk with hk | hk | hk
  ·exact .inl (.inl hk)
  ·simp only [Value.ownBlock,Option.some.injEq] at hk;subst hk;rcases h4 with h4 | h4
   ·exact .inl (.inr (.inl h4))
   ·exact .inr (by omega)
  ·exact .inl (.inr (.inr hk))
theorem radd_any (h:RfAt w pf R S) {a:An} {ea:Option Addr} {el ec:Nat} (he:EntsAt w ea el ec a.ents) (hl0:0≤S.last) (hl1:S.last≤1000000) (hgl:R.G.length≤1000000) :
  Calls Tryz.prog 256 #[.pointer (some ⟨pf,0,none⟩),a.v ea el ec] w fun e w'=>e=.returned (.int .i64 (S.last+1))∧∃ R',RfAt w' pf R' (S.add a)∧Stp (R.F pf) (R'.F pf) w w'∧Rf.Like R R'∧R'.dv=R.dv:=by
 obtain⟨h1,hM1⟩:=h.setLast (S.last+1);have hb1:=(Below.refl _ (w.setCell ⟨pf,2,none⟩ (.int .i64 (S.last+1)))).alloc (Nat.le_refl _) (.cells #[.int .i64 (S.last+1),.int .i64 a.dev,.int .i64 a.kind,.int .i64 a.mode,.int .i64 a.uid,.int .i64 a.gid,.int .i64 a.mtime,.int .i64 a.ctime,.int .i64 a.links,.int .i64 a.up,.string a.data,.slice ea el ec] 109);have h2:=h1.keep hb1;have hq2:=Blk.new (w.setCell ⟨pf,2,none⟩ (.int .i64 (S.last+1))) #[.int .i64 (S.last+1),.int .i64 a.dev,.int .i64 a.kind,.int .i64 a.mode,.int .i64 a.uid,.int .i64 a.gid,.int .i64 a.mtime,.int .i64 a.ctime,.int .i64 a.links,.int .i64 a.up,.string a.data,.slice ea el ec] 109;rw [World.size_setCell] at hq2;have hne:pf≠w.heap.size:=fun e=>by have:=h.blk.lt;omega
 have hst:=hM1.trans (Mod.of_below hb1);have he2:=he.rf h (Stp.of_mod hst);have hF:¬ R.F pf w.heap.size:=fun hk=>absurd (h.lt hk) (by omega);have hsa:S.add a={S with ns:=S.ns ++ [{a with no:=S.last+1}],last:=S.last+1}:=rfl;rw [hsa];obtain⟨pc,pf1,pz⟩:=h.blk.facts;obtain⟨na,nc,hnv,hnc1,hnc2⟩:=h.nform;have mixed:Tryz.prog.follows .mixedOrders=true:=by kernel_rfl
 have HX2:=Lib.hid h2;have HQ2:=Lib.hid hq2;have HST:=Lib.hid hst;have HE2:=Lib.hid he2;have hgl2:=hgl;unfold An.v;clear he h1 hM1 hb1 h2 hq2 hst he2 hsa;have hB0:=Blk.new w #[.int .i64 a.no,.int .i64 a.dev,.int .i64 a.kind,.int .i64 a.mode,.int .i64 a.uid,.int .i64 a.gid,.int .i64 a.mtime,.int .i64 a.ctime,.int .i64 a.links,.int .i64 a.up,.string a.data,.slice ea el ec] 109;obtain⟨qc,qf,qz⟩:=hB0.facts;clear hB0 h;go_enter Tryz.func256,Tryz.ntmps256;go_upto_region 3 with fail;generalize (w.setCell ⟨pf,2,none⟩ (.int .i64 (S.last+1))).alloc (.cells #[.int .i64 (S.last+1),.int .i64 a.dev,.int .i64 a.kind,.int .i64 a.mode,.int .i64 a.uid,.int .i64 a.gid,.int .i64 a.mtime,.int .i64 a.ctime,.int .i64 a.links,.int .i64 a.up,.string a.data,.slice ea el ec] 109)=X at HX2 HQ2 HST HE2 ⊢;clear pc pf1 pz qc qf qz;have hXz:=HST.out.size;have hb3:Below X.heap.size X (X.alloc (.cells #[.int .i64 (S.last+1),.int .i64 a.dev,.int .i64 a.kind,.int .i64 a.mode,.int .i64 a.uid,.int .i64 a.gid,.int .i64 a.mtime,.int .i64 a.ctime,.int .i64 a.links,.int .i64 a.up,.string a.data,.slice ea el ec] 109)).drew:=((Below.refl _ X).alloc (Nat.le_refl _) _).drew;obtain⟨g,cap,Y,hrun,hWY,hSY,hbY,hMY⟩:=(HX2.out.keep hb3).appN hgl ⟨X.heap.size,0,none⟩ ⟨{a with no:=S.last+1},ea,el,ec,0⟩ (World.news_of_block ((Blk.new X #[.int .i64 (S.last+1),.int .i64 a.dev,.int .i64 a.kind,.int .i64 a.mode,.int .i64 a.uid,.int .i64 a.gid,.int .i64 a.mtime,.int .i64 a.ctime,.int .i64 a.links,.int .i64 a.up,.string a.data,.slice ea el ec] 109).drew)) (HE2.out.keep hb3);have hq2:=HQ2.out;obtain⟨xc,xf,xz⟩:=HX2.out.blk.facts;obtain⟨yc,yf,yz⟩:=hbY.facts;obtain⟨qc,qf,qz⟩:=hq2.facts;have hq3:Blk Y w.heap.size #[.int .i64 (S.last+1),.int .i64 a.dev,.int .i64 a.kind,.int .i64 a.mode,.int .i64 a.uid,.int .i64 a.gid,.int .i64 a.mtime,.int .i64 a.ctime,.int .i64 a.links,.int .i64 a.up,.string a.data,.slice ea el ec] 109:=(hq2.keep hb3).mod hMY (fun hk=>hF (.inr (.inl hk)));obtain⟨zc,zf,zz⟩:=hq3.facts;have HWY:=Lib.hid hWY;have HSY:=Lib.hid (((Stp.of_mod HST.out).trans (Stp.of_below hb3)).trans hSY);rw [hnv] at xc yc hrun;clear hWY hSY hMY hbY hq2 hq3;have HRun:=Lib.hid hrun;clear hrun
 go_cut [] (fun wx=>wx=Y.setCell ⟨pf,0,none⟩ (.slice (some ⟨g,0,none⟩) (R.G.length+1) cap))
 case first=>
  have hrun:=HRun.out
  go_region_law_o (refine step_app_run rfl rfl rfl rfl hrun ?_)
  all_goals
   go_wp2_with fail;go_meet;rfl
 case rest=>
  subst hcut;clear xc xf xz yc yf yz qc qf qz;have hne2:¬ w.heap.size=pf:=fun e=>hne e.symm;go_wp2_with fail;go_ret;exact⟨rfl,_,HWY.out,HSY.out,⟨rfl,rfl,rfl,rfl⟩,rfl⟩
end
end
section
open Go.RowKit
section
variable {w w':World} {pf:Nat} {R:Rf} {S:Fs}
theorem RfAt.appD (h:RfAt w pf R S) (hl:S.ds.length≤1000) (ad:Addr) (y:Dv) (had:∀ j u,(Dv.cs y)[j]? = some u→w.cell? (ad.add j)=some u) :
  ∃ g cap W,(Builtin.append_ #[42,42] 42 #[R.dv,.slice (some ad) 1 1]).run Tryz.prog w=.ok (.slice (some ⟨g,0,none⟩) (S.ds.length+1) cap) W∧
   RfAt (W.setCell ⟨pf,1,none⟩ (.slice (some ⟨g,0,none⟩) (S.ds.length+1) cap)) pf {R with dv:=.slice (some ⟨g,0,none⟩) (S.ds.length+1) cap} {S with ds:=S.ds ++ [y]}∧
   Stp (R.F pf) (Rf.F {R with dv:=.slice (some ⟨g,0,none⟩) (S.ds.length+1) cap} pf) w (W.setCell ⟨pf,1,none⟩ (.slice (some ⟨g,0,none⟩) (S.ds.length+1) cap))∧
   Blk W pf #[R.nv,R.dv,.int .i64 S.last,.int .i64 R.now,R.cnt,R.pl,R.dd] 44∧Mod (fun k=>R.dv.ownBlock=some k) w W:=by
 obtain⟨i0,hi,hz0,hz1,hz2⟩:=info_parts rdev_info;obtain⟨g,cap,W,h1,h2,h3,h4⟩:=step_app (42) Tryz.underlying42 hi hz0 hz1 hz2 rfl (by omega) h.devs ad 1 1 (Dv.cs y) rfl had (by intro u hu;simp [Dv.cs] at hu;rcases hu with rfl | rfl | rfl | rfl | rfl | rfl <;> rfl) (by omega) (by unfold maxLen;omega) (by omega) (Nat.zero_le _);have hM:Mod (R.F pf) w W:=h3.mono (fun k hk=>.inr (.inr hk));have hbW:Blk W pf #[R.nv,R.dv,.int .i64 S.last,.int .i64 R.now,R.cnt,R.pl,R.dd] 44:=h.blk.mod h3 (fun hk=>by
  obtain⟨-,hc⟩:=own_obj1 h.devs hk;exact rf_apart hc h.blk (by decide) rfl)
 have hpg:pf≠g:=by
  rintro rfl;rcases h4 with h4 | h4
  ·obtain ⟨-,hc⟩:=own_obj1 h.devs h4;exact rf_apart hc h.blk (by decide) rfl
  ·have:=h.blk.lt;omega
 have hs2:Stp (R.F pf) (R.F pf) w (W.setCell ⟨pf,1,none⟩ (.slice (some ⟨g,0,none⟩) (S.ds.length+1) cap)):=Stp.of_mod (hM.setCell (.inl (.inl rfl)) _);have hmp:Mod (fun k=>k=pf) W (W.setCell ⟨pf,1,none⟩ (.slice (some ⟨g,0,none⟩) (S.ds.length+1) cap)):=(Mod.refl (fun k=>k=pf) W).setCell (a:=⟨pf,1,none⟩) (.inl rfl) _;refine ⟨g,cap,W,h1,⟨hbW.set 1 _,?_,?_,h.ns,fun x hx=>(h.ents x hx).rf h hs2⟩,⟨hs2.mod,fun k hk=>?_⟩,hbW,h3⟩
 ·refine own_mod (own_mod h.nds h3 (fun k hk e=>?_)) hmp (fun k hk e=>?_)
  ·obtain ⟨-,hc⟩:=own_obj1 h.devs hk;obtain⟨-,cur,hc2⟩:=own_obj1 h.nds e;exact rf_apart hc (show Blk w k cur 109 from hc2) (by decide) rfl
  ·obtain ⟨-,hc⟩:=own_obj1 h.nds e;exact rf_apart hc h.blk (by decide) hk.symm
 ·show World.ownsRow _ 0 170 6 _ (S.ds ++ [y]).length ((S.ds ++ [y]).flatMap Dv.cs);rw [List.length_append,List.length_singleton,List.flatMap_append,List.flatMap_singleton];refine own_mod h2 hmp (fun k hk e=>?_);subst hk;simp only [Value.ownBlock,Option.some.injEq] at e;exact hpg e.symm
 ·rcases hk with hk | hk | hk
  ·exact .inl (.inl hk)
  ·exact .inl (.inr (.inl hk))
  ·simp only [Value.ownBlock,Option.some.injEq] at hk;subst hk;rcases h4 with h4 | h4
   ·exact .inl (.inr (.inr h4))
   ·exact .inr (by omega)
theorem rroot_any (h:RfAt w pf R S) (d:Int) :
  Calls Tryz.prog 14 #[.pointer (some ⟨pf,0,none⟩),.int .i64 d] w fun e w'=>e=.returned (.int .i64 (S.root d))∧w'=w:=by
 obtain⟨da,dc,hdv,hdc1,hdc2⟩:=h.dform;obtain⟨pc,-,pz⟩:=h.blk.facts;by_cases h1:1≤d
 ·by_cases h2:d≤S.ds.length
  ·obtain ⟨k,rfl⟩:∃ k:Nat,d=(k:Int)+1:=⟨(d - 1).toNat,by omega⟩;have hk:k<S.ds.length:=by omega
   have hr:S.root ((k:Int)+1)=S.ds[k].root:=by
    unfold Fs.root;rw [if_pos ⟨h1,h2⟩,show ((k:Int)+1 - 1).toNat=k by omega,List.getElem?_eq_getElem hk]
   rw [hr];obtain⟨g,cap,hdv,hle,h63,hg,hc,-,-⟩:=h.devF (by omega);rw [hdv] at pc;have hcc:=(hc _ hk).c0;clear hc hr h;generalize S.ds[k]=v at hcc ⊢;generalize S.ds.length=n at pc hle h2 hk;go_enter Tryz.func14,Tryz.ntmps14
   go_wp2
   go_ret;exact⟨rfl,rfl⟩
  ·rw [root_no (by omega)];have h2':(S.ds.length:Int)<d:=by omega
   rw [hdv] at pc;clear h;generalize S.ds.length=n at pc h2 h2';go_enter Tryz.func14,Tryz.ntmps14
   go_wp2
   go_ret;exact⟨rfl,rfl⟩
 ·rw [root_no (by omega)];have h1':d<1:=by omega
  clear h;go_enter Tryz.func14,Tryz.ntmps14
  go_wp2
  go_ret;exact⟨rfl,rfl⟩
theorem rover_any (h:RfAt w pf R S) (no:Int) :
  Calls Tryz.prog 163 #[.pointer (some ⟨pf,0,none⟩),.int .i64 no] w fun e w'=>e=.returned (.int .i64 (S.over no))∧w'=w:=by
 have HW:=Lib.hid h;obtain⟨da,dc,hdv,hdc1,hdc2⟩:=h.dform;have HDv:=Lib.hid hdv;obtain⟨pc,-,pz⟩:=h.blk.facts;rw [hdv] at pc;have HO1:=Lib.hid (fun h0=>over_at S no h0);have HO2:=Lib.hid (over_none S no);have HO3:=Lib.hid (show ¬ 0<no→S.over no=no from fun h0=>by unfold Fs.over;rw [if_neg h0]);obtain⟨n,hn⟩:∃ n,S.ds.length=n:=⟨_,rfl⟩;have HNn:=Lib.hid hn;rw [hn] at pc hdc1;generalize S.over no=out at HO1 HO2 HO3 ⊢;clear h hdv hn;go_enter Tryz.func163,Tryz.ntmps163;go_wp2_with fail
 go_loopw [5] (fun t5 wr=>∃ k:Nat,k≤n∧t5=.int .i64 k∧(∀ j (hj:j<S.ds.length),j<k→0<no→S.ds[j].over≠no)∧wr=w) (fun t5 _=>n - (intOf t5).toNat)
 case atStart=>exact ⟨0,Nat.zero_le _,rfl,fun j _ h=>absurd h (Nat.not_lt_zero _),rfl⟩
 case round=>
  obtain⟨k,hk,rfl,hno,rfl⟩:=hrel;have HNo:=Lib.hid hno;clear hno;by_cases hlt:k<n
  ·have hkl:k<S.ds.length:=by rw [HNn.out];exact hlt
   obtain⟨g,cap,hdv2,-,-,hg,hc,-,-⟩:=HW.out.devF (by omega);have he:=HDv.out.symm.trans hdv2;injection he with he1 he2 he3;subst he1;obtain⟨c0,c1,-,-,-,-⟩:=hc k hkl;have HOk:=Lib.hid (fun h0=>HO1.out h0 k hkl);clear hc hdv2 he2 he3;by_cases h0:0<no
   ·by_cases hq:S.ds[k].over=no
    ·have HR:=Lib.hid (HOk.out h0 (fun j hj hjk=>HNo.out j hj hjk h0) hq);have hqb:(S.ds[k].over == no)=true:=by simpa using hq
     generalize S.ds[k]=v at c0 c1 hqb HR;clear hq;go_wp2_with fail;go_ret;exact⟨by rw [HR.out];rfl,rfl⟩
    ·have hqb:(S.ds[k].over == no)=false:=by simpa using hq
     have HNo2:=Lib.hid (show ∀ j (hj:j<S.ds.length),j<k+1→0<no→S.ds[j].over≠no from fun j hj hjk h0=>by
      by_cases e:j=k
      ·subst e;exact hq
      ·exact HNo.out j hj (by omega) h0)
     generalize S.ds[k]=v at c0 c1 hqb;clear hq;go_wp2_with fail;go_roundw
     case rel=>exact ⟨k+1,by omega,by go_num,HNo2.out,by trivial⟩
     case measure=>simp [intOf];omega
   ·have HNo2:=Lib.hid (show ∀ j (hj:j<S.ds.length),j<k+1→0<no→S.ds[j].over≠no from fun j hj hjk h1=>absurd h1 h0);clear c0 c1;go_wp2_with fail;go_roundw
    case rel=>exact ⟨k+1,by omega,by go_num,HNo2.out,by trivial⟩
    case measure=>simp [intOf];omega
  ·obtain rfl:k=n:=by omega
   have HR:=Lib.hid (show out=no by
    by_cases h0:0<no
    ·exact HO2.out (fun j hj=>HNo.out j hj (by rw [←HNn.out];exact hj) h0)
    ·exact HO3.out (by omega))
   go_wp2_with fail;go_ret;exact⟨by rw [HR.out];rfl,rfl⟩
end
end
section
open Go.RowKit
section
variable {w w':World} {pf:Nat} {R:Rf} {S:Fs}
theorem addRoot_ref (S:Fs) (hn:Nums S) (over b n:Int) :
  {((S.add (rootN S)).set {rootN S with no:=S.last+1,up:=S.last+1}) with ds:=S.ds ++ [⟨S.last+1,over,1,1,b,n⟩]}=S.addRoot over b n:=by
 unfold Fs.addRoot Fs.set Fs.add;simp only [List.map_append,List.map_cons,List.map_nil];congr 1;congr 1
 ·conv=>rhs;rw [←List.map_id S.ns]
  apply List.map_congr_left;intro x hx;have:=hn.low x hx;simp only [id_eq];rw [if_neg];simp;omega
 ·simp [rootN]
theorem rrootN_any (h:RfAt w pf R S) (hn:Nums S) (hl0:0≤S.last) (hl1:S.last≤100000) (hgl:S.ns.length≤100000) (hd:S.ds.length≤7) (over b n:Int) :
  Calls Tryz.prog 202 #[.pointer (some ⟨pf,0,none⟩),.int .i64 over,.int .i64 b,.int .i64 n] w fun e w'=>e=.returned (.int .i64 (S.last+1))∧∃ R',RfAt w' pf R' (S.addRoot over b n)∧Stp (R.F pf) (R'.F pf) w w'∧Rf.Like R R':=by
 have hlen:=h.len;obtain⟨da,dc,hdv,hdc1,hdc2⟩:=h.dform;obtain⟨pc,-,pz⟩:=h.blk.facts;rw [hdv] at pc;obtain⟨m,hm⟩:∃ m,S.ds.length=m:=⟨_,rfl⟩;have Hm:=Lib.hid hm;obtain⟨S2,hS2⟩:∃ S2,S.add (rootN S)=S2:=⟨_,rfl⟩;obtain⟨a5,ha5⟩:∃ a5:An,{rootN S with no:=S.last+1}=a5:=⟨_,rfl⟩;obtain⟨a6,ha6⟩:∃ a6:An,{rootN S with no:=S.last+1,up:=S.last+1}=a6:=⟨_,rfl⟩;have HAdd:=Lib.hid (show Calls Tryz.prog 256 #[.pointer (some ⟨pf,0,none⟩),.agg #[.int .i64 0,.int .i64 ((m:Int)+1),.int .i64 1,.int .i64 493,.int .i64 0,.int .i64 0,.int .i64 0,.int .i64 0,.int .i64 1,.int .i64 0,.string ByteArray.empty,.slice none 0 0]] w fun e w'=>e=.returned (.int .i64 (S.last+1))∧∃ R',RfAt w' pf R' S2∧Stp (R.F pf) (R'.F pf) w w'∧Rf.Like R R'∧R'.dv=R.dv by
  rw [←hm,←hS2];exact radd_any h (a:=rootN S) (EntsAt.nil w) hl0 (by omega) (by omega))
 have HGet:=Lib.hid (show S2.get (S.last+1)=some a5 by rw [←hS2,←ha5,an_add hn];exact if_pos rfl);have HV5:=Lib.hid (fun (ea:Option Addr) (el ec:Nat)=>show a5.v ea el ec=.agg #[.int .i64 (S.last+1),.int .i64 ((m:Int)+1),.int .i64 1,.int .i64 493,.int .i64 0,.int .i64 0,.int .i64 0,.int .i64 0,.int .i64 1,.int .i64 0,.string ByteArray.empty,.slice ea el ec] by rw [←ha5,←hm];rfl);have HV6:=Lib.hid (fun (ea:Option Addr) (el ec:Nat)=>show a6.v ea el ec=.agg #[.int .i64 (S.last+1),.int .i64 ((m:Int)+1),.int .i64 1,.int .i64 493,.int .i64 0,.int .i64 0,.int .i64 0,.int .i64 0,.int .i64 1,.int .i64 (S.last+1),.string ByteArray.empty,.slice ea el ec] by rw [←ha6,←hm];rfl);have HA6:=Lib.hid (show a6.no=S.last+1∧a6.ents=a5.ents by rw [←ha6,←ha5];exact ⟨rfl,rfl⟩);have HEq:=Lib.hid (show {(S2.set a6) with ds:=(S2.set a6).ds ++ [⟨S.last+1,over,1,1,b,n⟩]}=S.addRoot over b n by rw [←hS2,←ha6];exact addRoot_ref S hn over b n);have HDk:=Lib.hid (show (S2.set a6).ds.length=m by rw [←hS2,←hm];rfl);have HN2:=Lib.hid (show Nums S2 by rw [←hS2];exact hn.add hl0 (rootN S));have hmm:(m:Int)≤7:=by omega
 rw [hm] at pc;clear h hm hS2 ha5 ha6 hlen hgl;go_enter Tryz.func202,Tryz.ntmps202;go_wp2_with fail;refine HAdd.out.mono ?_;rintro e w5 ⟨rfl,R5,hR1,hR2,hR3,hR4⟩;have HR5:=Lib.hid (And.intro hR1 (And.intro hR2 (And.intro hR3 hR4)));obtain⟨ea,el,ec,hE,hG⟩:=rget_yes hR1 HGet.out;rw [HV5.out] at hG;have HG:=Lib.hid hG;have HE:=Lib.hid hE;clear hR1 hR2 hR3 hR4 hG hE pc;go_wp2_with fail;refine HG.out.mono ?_;rintro e w6 ⟨rfl,hb6⟩;have hbX:=balloc hb6 (.cells #[.int .i64 (S.last+1),.int .i64 ((m:Int)+1),.int .i64 1,.int .i64 493,.int .i64 0,.int .i64 0,.int .i64 0,.int .i64 0,.int .i64 1,.int .i64 (S.last+1),.string ByteArray.empty,.slice ea el ec] 109);have HSet:=Lib.hid (rset_any (HR5.out.1.keep hbX) HN2.out (a:=a6) (ea:=ea) (el:=el) (ec:=ec) (by rw [HA6.out.2];exact HE.out.keep hbX) (b:=a5) (by rw [HA6.out.1];exact HGet.out));rw [HV6.out] at HSet;have HB6:=Lib.hid hb6;have HBX:=Lib.hid hbX;clear hb6 hbX;go_wp2_with fail;refine HSet.out.mono ?_;rintro e w7 ⟨rfl,R7,hR7,hS7,hL7,hd7⟩;obtain⟨xc,xf,xz⟩:=hR7.blk.facts;have hdv7:R7.dv=.slice da m dc:=by rw [hd7,HR5.out.2.2.2,hdv,Hm.out]
 rw [hdv7] at xc;have hb8:Below w7.heap.size w7 (w7.alloc (.cells #[.int .i64 (S.last+1),.int .i64 over,.int .i64 1,.int .i64 1,.int .i64 b,.int .i64 n] 170)):=(Below.refl _ w7).alloc (Nat.le_refl _) _;obtain⟨g,cap,Y,hrun,hWY,hSY,hbY,hMY⟩:=(hR7.keep hb8).appD (by rw [HDk.out];omega) ⟨w7.heap.size,0,none⟩ ⟨S.last+1,over,1,1,b,n⟩ (World.news_of_block (Blk.new w7 #[.int .i64 (S.last+1),.int .i64 over,.int .i64 1,.int .i64 1,.int .i64 b,.int .i64 n] 170));obtain⟨yc,yf,yz⟩:=hbY.facts;rw [HDk.out,hdv7] at hrun;rw [hdv7] at yc;rw [HEq.out] at hWY;rw [HDk.out] at hWY hSY;have HF:=Lib.hid (And.intro hWY (And.intro ((((HR5.out.2.1.trans (Stp.of_below HBX.out)).trans hS7).trans (Stp.of_below hb8)).trans hSY) (HR5.out.2.2.1.trans hL7)));have HR:=Lib.hid hrun;clear hR7 hS7 hL7 hd7 hb8 hWY hSY hbY hMY hrun;go_wp2_with (at_builtin;refine wpList_app_run rfl rfl rfl rfl HR.out ?_);go_ret;exact⟨rfl,_,HF.out.1,HF.out.2.1,⟨HF.out.2.2.now,HF.out.2.2.cnt,HF.out.2.2.pl,HF.out.2.2.dd⟩⟩
end
end
section
open Go.RowKit
def rf0:Rf:=⟨.slice none 0 0,.slice none 0 0,[],0,.int .i64 0,.slice none 0 0,.bool false⟩
theorem rnew_any (b n:Int) (hlim:limB b n=true) (w:World) :
  Calls Tryz.prog 138 #[.int .i64 b,.int .i64 n] w fun e w'=>∃ pf R',e=.returned (.pointer (some ⟨pf,0,none⟩))∧RfAt w' pf R' (fs0.addRoot 0 b n)∧(∀ k,R'.F pf k→w.heap.size≤k)∧Rf.Like rf0 R'∧Below w.heap.size w w':=by
 have hb0:=(Below.refl _ w).alloc (Nat.le_refl _) (.cells #[.slice none 0 0,.slice none 0 0,.int .i64 0,.int .i64 0,.int .i64 0,.slice none 0 0,.bool false] 44);have h0:RfAt (w.alloc (.cells #[.slice none 0 0,.slice none 0 0,.int .i64 0,.int .i64 0,.int .i64 0,.slice none 0 0,.bool false] 44)) w.heap.size rf0 fs0:=
  ⟨Blk.new w _ _,World.ownsRow_nil _ _ _ _,World.ownsRow_nil _ _ _ _,rfl,fun g hg=>by cases hg⟩
 have HRt:=Lib.hid (rrootN_any h0 ⟨List.Pairwise.nil,fun x hx=>by simp [fs0] at hx⟩ (by decide) (by decide) (by decide) (by decide) 0 b n);have HLm:=Lib.hid (fun w=>limits_any b n w);rw [hlim] at HLm;have HB0:=Lib.hid hb0;clear h0 hb0 hlim;go_enter Tryz.func138,Tryz.ntmps138;go_wp2_with fail;refine (HLm.out _).mono ?_;rintro e w1 ⟨rfl,rfl⟩;go_wp2_with fail;refine HRt.out.mono ?_;rintro e w2 ⟨rfl,R',hR,hS,hL⟩;have HX:=Lib.hid (And.intro hR (And.intro hS hL));clear hR hS hL;go_wp2_with fail;go_ret;have hF:∀ k,rf0.F w.heap.size k→w.heap.size≤k:=fun k hk=>by
  rcases hk with rfl | hk | hk
  ·exact Nat.le_refl _
  ·cases hk
  ·cases hk
 exact⟨_,R',rfl,HX.out.1,HX.out.2.1.above hF (by simp),HX.out.2.2,HB0.out.trans (HX.out.2.1.below hF (by simp))⟩
section
variable {w w':World} {pf:Nat} {R:Rf} {S:Fs}
theorem rmount_any (h:RfAt w pf R S) {N:Nat} (hk:FsOk S N) (hN:N≤100000) (hgl:S.ns.length≤100000) (no b n:Int) :
  Calls Tryz.prog 204 #[.pointer (some ⟨pf,0,none⟩),.int .i64 no,.int .i64 b,.int .i64 n] w fun e w'=>e=.returned (.tuple #[.int .i64 (S.mount no b n).2.1,.int .i64 (S.mount no b n).2.2])∧∃ R',RfAt w' pf R' (S.mount no b n).1∧Stp (R.F pf) (R'.F pf) w w'∧Rf.Like R R':=by
 have hkeep:∀ w2,Below w.heap.size w w2→∃ R',RfAt w2 pf R' S∧Stp (R.F pf) (R'.F pf) w w2∧Rf.Like R R':=fun w2 hb=>⟨R,h.keep hb,Stp.of_below hb,Rf.Like.refl R⟩;have HKp:=Lib.hid hkeep;have HW:=Lib.hid h;have HK:=Lib.hid hk
 cases hg:S.get no with
 | none=>
  have HM:=Lib.hid (show S.mount no b n=(S,0,5) by unfold Fs.mount;rw [hg]);have HG:=Lib.hid (rget_no h hg);unfold An.v an0 at HG;clear h hk hg hkeep;go_enter Tryz.func204,Tryz.ntmps204;go_wp2_with fail;refine HG.out.mono ?_;rintro e w1 ⟨rfl,hb1⟩;have HB:=Lib.hid (balloc hb1 (.cells #[.int .i64 0,.int .i64 0,.int .i64 0,.int .i64 0,.int .i64 0,.int .i64 0,.int .i64 0,.int .i64 0,.int .i64 0,.int .i64 0,.string ByteArray.empty,.slice none 0 0] 109));clear hb1;go_wp2_with fail;go_ret2;rw [HM.out];exact⟨rfl,HKp.out _ HB.out⟩
 | some a=>
  obtain⟨hao,hno,h1,-⟩:=hk.get hg;obtain⟨ea,el,ec,-,hgc⟩:=rget_yes h hg;have HG:=Lib.hid hgc;unfold An.v at HG;have hz:(a.no == 0)=false:=by simp only [beq_eq_false_iff_ne,ne_eq];omega
  have HM:=Lib.hid (show S.mount no b n=if a.kind≠1 then (S,0,9) else if S.over no≠no∨S.root a.dev=no then (S,0,16) else if 8≤S.ds.length∨limB b n=false then (S,0,3) else (S.addRoot no b n,S.last+1,0) by unfold Fs.mount;rw [hg]);have HRo:=Lib.hid (fun w1 (hb1:Below w.heap.size w w1)=>rroot_any (h.keep hb1) a.dev);have HOv:=Lib.hid (fun w1 (hb1:Below w.heap.size w w1)=>rover_any (h.keep hb1) no);have HLm:=Lib.hid (fun w=>limits_any b n w);obtain⟨da,dc,hdv,hdc1,hdc2⟩:=h.dform;obtain⟨pc,-,pz⟩:=h.blk.facts;rw [hdv] at pc;generalize hov:S.over no=ov at HM HOv;generalize hrt:S.root a.dev=rt at HM HRo;have hb0:∀ w1,Below w.heap.size w w1→Below w.heap.size w (w1.alloc (.cells #[.int .i64 a.no,.int .i64 a.dev,.int .i64 a.kind,.int .i64 a.mode,.int .i64 a.uid,.int .i64 a.gid,.int .i64 a.mtime,.int .i64 a.ctime,.int .i64 a.links,.int .i64 a.up,.string a.data,.slice ea el ec] 109)):=fun w1 hb=>balloc hb _;have HB0:=Lib.hid hb0;have HRt:=Lib.hid (fun w1 (hb1:Below w.heap.size w w1) (hd:S.ds.length≤7)=>rrootN_any (h.keep hb1) hk.nums hk.l0 (by have:=hk.lN;omega) hgl hd no b n);obtain⟨m,hm⟩:∃ m,S.ds.length=m:=⟨_,rfl⟩;rw [hm] at pc HM HRt;clear h hk hg hgc hao hkeep hno hov hrt hdv hm hb0 h1 hdc1;go_enter Tryz.func204,Tryz.ntmps204;go_wp2_with fail;refine HG.out.mono ?_;rintro e w1 ⟨rfl,hb1⟩;have hbX:=HB0.out w1 hb1;have hB1:=Blk.new w1 #[.int .i64 a.no,.int .i64 a.dev,.int .i64 a.kind,.int .i64 a.mode,.int .i64 a.uid,.int .i64 a.gid,.int .i64 a.mtime,.int .i64 a.ctime,.int .i64 a.links,.int .i64 a.up,.string a.data,.slice ea el ec] 109;go_upto_region 2 with fail;generalize w1.alloc (.cells #[.int .i64 a.no,.int .i64 a.dev,.int .i64 a.kind,.int .i64 a.mode,.int .i64 a.uid,.int .i64 a.gid,.int .i64 a.mtime,.int .i64 a.ctime,.int .i64 a.links,.int .i64 a.up,.string a.data,.slice ea el ec] 109)=X at hbX hB1 ⊢;have HBX:=Lib.hid hbX;obtain⟨qc,qf,qz⟩:=hB1.facts;have pc2:=fun i=>(hbX.cell (p:=⟨pf,i,none⟩) pz).trans (pc i);clear hb1 hbX hB1 pc;by_cases h1:a.kind=1
  ·have q1:(a.kind == 1)=true:=by simpa using h1
   have q2:(a.kind != 1)=false:=by simpa using h1
   have HM1:=Lib.hid (HM.out.trans (if_neg (by simpa using h1)));clear h1;by_cases h2:ov=no
   ·by_cases h3:rt=no
    ·have HM2:=Lib.hid (HM1.out.trans (if_pos (.inr h3)));have q3:(ov != no)=false:=by simpa using h2
     have q4:(rt == no)=true:=by simpa using h3
     clear h2 h3;go_wp2_with fail;refine (HOv.out _ HBX.out).mono ?_;rintro e w2 ⟨rfl,rfl⟩;go_wp2_with fail;refine (HRo.out _ HBX.out).mono ?_;rintro e w2 ⟨rfl,rfl⟩;go_wp2_with fail;go_ret2;rw [HM2.out];exact⟨rfl,HKp.out _ HBX.out⟩
    ·have HM2:=Lib.hid (HM1.out.trans (if_neg (by rintro (h | h);exact h h2;exact h3 h)));have q3:(ov != no)=false:=by simpa using h2
     have q4:(rt == no)=false:=by simpa using h3
     clear h2 h3;by_cases h4:8≤m
     ·have HM3:=Lib.hid (HM2.out.trans (if_pos (.inl h4)));have q5:(8:Int)≤(m:Int):=by omega
      clear h4;go_wp2_with fail;refine (HOv.out _ HBX.out).mono ?_;rintro e w2 ⟨rfl,rfl⟩;go_wp2_with fail;refine (HRo.out _ HBX.out).mono ?_;rintro e w2 ⟨rfl,rfl⟩;go_wp2_with fail;go_ret2;rw [HM3.out];exact⟨rfl,HKp.out _ HBX.out⟩
     ·have q5:¬ (8:Int)≤(m:Int):=by omega
      have HM7:=Lib.hid (show m≤7 by omega)
      cases hl:limB b n with
      | false=>
       have HM3:=Lib.hid (HM2.out.trans (if_pos (.inr hl)));rw [hl] at HLm;clear h4 hl;go_wp2_with fail;refine (HOv.out _ HBX.out).mono ?_;rintro e w2 ⟨rfl,rfl⟩;go_wp2_with fail;refine (HRo.out _ HBX.out).mono ?_;rintro e w2 ⟨rfl,rfl⟩;go_wp2_with fail;refine (HLm.out _).mono ?_;rintro e w2 ⟨rfl,rfl⟩;go_wp2_with fail;go_ret2;rw [HM3.out];exact⟨rfl,HKp.out _ HBX.out⟩
      | true=>
       have HM3:=Lib.hid (HM2.out.trans (if_neg (by rintro (h | h);exact h4 h;rw [hl] at h;cases h)));rw [hl] at HLm;clear h4 hl;go_wp2_with fail;refine (HOv.out _ HBX.out).mono ?_;rintro e w2 ⟨rfl,rfl⟩;go_wp2_with fail;refine (HRo.out _ HBX.out).mono ?_;rintro e w2 ⟨rfl,rfl⟩;go_wp2_with fail;refine (HLm.out _).mono ?_;rintro e w2 ⟨rfl,rfl⟩;go_wp2_with fail;refine (HRt.out _ HBX.out HM7.out).mono ?_;rintro e w3 ⟨rfl,R',hR,hS,hL⟩;have HF:=Lib.hid (And.intro hR (And.intro ((Stp.of_below HBX.out).trans hS) hL));clear hR hS hL;go_wp2_with fail;go_ret2;rw [HM3.out];exact⟨rfl,R',HF.out.1,HF.out.2.1,HF.out.2.2⟩
   ·have HM2:=Lib.hid (HM1.out.trans (if_pos (.inl h2)));have q3:(ov != no)=true:=by simpa using h2
    clear h2;go_wp2_with fail;refine (HOv.out _ HBX.out).mono ?_;rintro e w2 ⟨rfl,rfl⟩;go_wp2_with fail;go_ret2;rw [HM2.out];exact⟨rfl,HKp.out _ HBX.out⟩
  ·have q1:(a.kind == 1)=false:=by simpa using h1
   have q2:(a.kind != 1)=true:=by simpa using h1
   have HM1:=Lib.hid (HM.out.trans (if_pos (by simpa using h1)));clear h1;go_wp2_with fail;go_ret2;rw [HM1.out];exact⟨rfl,HKp.out _ HBX.out⟩
end
end
end Go.Proofs.YtihdbncoijhihaaGreatDoor
