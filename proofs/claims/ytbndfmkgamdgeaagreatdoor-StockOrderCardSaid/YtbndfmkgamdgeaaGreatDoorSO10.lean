import Derived.Test.YtbndfmkgamdgeaaGreatDoorSO1
import Derived.Test.YtbndfmkgamdgeaaGreatDoorSO2
import Derived.Test.YtbndfmkgamdgeaaGreatDoorSO5
import Derived.Test.YtbndfmkgamdgeaaGreatDoorSO6
import Derived.Test.YtbndfmkgamdgeaaGreatDoorSO7
import Derived.Test.YtbndfmkgamdgeaaGreatDoorSO8
import Derived.Test.YtbndfmkgamdgeaaGreatDoorSO9
set_option linter.unusedVariables false
set_option linter.unusedSimpArgs false
set_option maxRecDepth 100000
set_option maxHeartbeats 16000000
namespace Go.Proofs.YtbndfmkgamdgeaaGreatDoor
section
open Go.RowKit
theorem own_obj1 {w:World} {base sz n k:Nat} {e:TypeId} {v:Value} {xs:List Value} (h:w.ownsRow base e sz v n xs) (hk:v.ownBlock=some k):base≤k∧∃ cur,w.heap[k]? = some (.cells cur e (0,0)):=by
 rcases h.2 with ⟨rfl,-⟩|⟨g,cap,cur,rfl,hb,hg,-⟩
 ·cases hk
 ·simp only [Value.ownBlock,Option.some.injEq] at hk;subst hk;exact⟨hb,cur,hg⟩
section
variable {w w':World} {pw:Nat} {R:Rp} {S:Fs}
theorem WdAt.tabStep (h:WdAt w pw R S) (hM:Mod (fun k=>k=R.pt∨k=R.pm) w w'):Stp (R.F pw) (R.F pw) w w'∧Blk w' pw #[.pointer (some ⟨R.pt,0,none⟩),R.dv] 213∧w'.ownsRow 0 217 6 R.dv S.ds.length (S.ds.flatMap Dv.cs):=by
 have hM':Mod (R.F pw) w w':=hM.mono (fun k hk=>hk.elim (fun e=>.inr (.inl e)) (fun e=>.inr (.inr (.inl e))));have hap:∀ (x:Nat) (vs:Array Value) (T:TypeId),Blk w x vs T→T≠290→¬ (x=R.pt∨x=R.pm):=by
  rintro x vs T hx hT (rfl | rfl)
  ·have h2:=h.tab.blk;unfold Blk at hx h2;rw [hx] at h2;injection h2 with h2;injection h2 with _ h2;exact hT h2
  ·have h2:=h.tab.map;unfold MapB at h2;unfold Blk at hx;rw [hx] at h2
   cases h2
 refine ⟨Stp.of_mod hM',h.blk.mod hM (hap _ _ _ h.blk (by decide)),⟨h.devs.1,h.devs.2.imp id fun ⟨g,cap,cur,h1,h2,hg,h3⟩=>⟨g,cap,cur,h1,h2,(hM.block g (Array.getElem?_eq_some_iff.1 hg).1 (hap _ _ _ hg (by decide))).trans hg,h3⟩⟩⟩
def Gn.put (a:An) (ea:Option Addr) (el ec:Nat) (g:Gn):Gn:=if g.a.no == a.no then ⟨a,ea,el,ec,g.clk⟩ else g
theorem WdAt.setN (h:WdAt w pw R S) (a:An) {ea:Option Addr} {el ec:Nat} (he:EntsAt w ea el ec a.ents) {b:An} (hb:S.get a.no=some b) :
  Calls Tryz.prog 148 #[.pointer (some ⟨R.pt,0,none⟩),a.v ea el ec] w fun e w'=>e=.returned (.bool true)∧∃ R',WdAt w' pw R' (S.set a)∧Stp (R.F pw) (R'.F pw) w w'∧R'.pt=R.pt∧R'.dv=R.dv:=by
 obtain⟨g0,-,-,hf,-⟩:=G_of h hb;refine (set_yes g0.nd (a.nd ea el ec) w R.pt R.pm S.last _ R.clk h.tab hf).mono ?_;rintro e w' ⟨rfl,hT,hM⟩;obtain⟨hst,hblk,hdv⟩:=h.tabStep hM;refine ⟨rfl,⟨R.pt,R.pm,R.dv,R.G.map (Gn.put a ea el ec),R.clk⟩,⟨hblk,?_,hdv,?_,?_⟩,⟨hst.mod,fun k hk=>.inl hk⟩,rfl,rfl⟩
 ·show Tab w' R.pt R.pm S.last ((R.G.map (Gn.put a ea el ec)).map Gn.e) R.clk;have e:(R.G.map (Gn.put a ea el ec)).map Gn.e=(R.G.map Gn.e).map fun x=>if x.1.no == (a.nd ea el ec).no then (a.nd ea el ec,x.2) else x:=by
   rw [List.map_map,List.map_map];apply List.map_congr_left;intro g _;simp only [Function.comp_apply,Gn.put];show Gn.e (if (g.a.no == a.no)=true then _ else g)=if (g.a.no == a.no)=true then _ else _
   split
   ·rfl
   ·rfl
  rw [e];exact hT
 ·show (S.ns.map _)=(R.G.map (Gn.put a ea el ec)).map (fun g:Gn=>g.a);rw [h.ns,List.map_map,List.map_map];apply List.map_congr_left;intro g _;simp only [Function.comp_apply,Gn.put]
  split <;> rfl
 ·intro g hg;obtain⟨g1,hg1,rfl⟩:=List.mem_map.1 hg;unfold Gn.put
  split
  ·exact he.wd h hst
  ·exact (h.ents g1 hg1).wd h hst
theorem dev_info:(Tryz.prog.info? 217).map (fun i=>(i.zero,i.size,i.bytes))=some (some (.agg #[.int .i64 0,.int .i64 0,.int .i64 0,.int .i64 0,.int .i64 0,.int .i64 0]),6,48):=by kernel_rfl
def Fs.addDev (S:Fs) (over b n:Int):Fs:={S with ds:=S.ds ++ [⟨0,over,1,1,b,n⟩]}
theorem WdAt.app (h:WdAt w pw R S) (hl:S.ds.length≤100) (ad:Addr) (over b n:Int) (had:∀ j u,(Dv.cs ⟨0,over,1,1,b,n⟩)[j]? = some u→w.cell? (ad.add j)=some u) :
  ∃ g cap W,(Builtin.append_ #[211,211] 211 #[R.dv,.slice (some ad) 1 1]).run Tryz.prog w=.ok (.slice (some ⟨g,0,none⟩) (S.ds.length+1) cap) W∧
   WdAt (W.setCell ⟨pw,1,none⟩ (.slice (some ⟨g,0,none⟩) (S.ds.length+1) cap)) pw {R with dv:=.slice (some ⟨g,0,none⟩) (S.ds.length+1) cap} (S.addDev over b n)∧
   Stp (R.F pw) (Rp.F {R with dv:=.slice (some ⟨g,0,none⟩) (S.ds.length+1) cap} pw) w (W.setCell ⟨pw,1,none⟩ (.slice (some ⟨g,0,none⟩) (S.ds.length+1) cap))∧
   Blk W pw #[.pointer (some ⟨R.pt,0,none⟩),R.dv] 213∧Mod (fun k=>R.dv.ownBlock=some k) w W:=by
 obtain⟨i0,hi,hz0,hz1,hz2⟩:=info_parts dev_info;obtain⟨g,cap,W,h1,h2,h3,h4⟩:=step_app (211) Tryz.underlying211 hi hz0 hz1 hz2 rfl (by omega) h.devs ad 1 1 (Dv.cs ⟨0,over,1,1,b,n⟩) rfl had (by intro u hu;simp [Dv.cs] at hu;rcases hu with rfl | rfl | rfl | rfl | rfl <;> rfl) (by omega) (by unfold maxLen;omega) (by omega) (Nat.zero_le _);have hM:Mod (R.F pw) w W:=h3.mono (fun k hk=>.inr (.inr (.inr hk)));have hap:∀ (x:Nat) (vs:Array Value) (T:TypeId),Blk w x vs T→T≠217→¬ (R.dv.ownBlock=some x):=by
  intro x vs T hx hT hk;obtain⟨-,cur,hc⟩:=own_obj1 h.devs hk;unfold Blk at hx;rw [hx] at hc;injection hc with hc;injection hc with _ hc;exact hT hc
 have hbW:Blk W pw #[.pointer (some ⟨R.pt,0,none⟩),R.dv] 213:=h.blk.mod h3 (hap _ _ _ h.blk (by decide));have hpg:pw≠g:=by
  rintro rfl;rcases h4 with h4 | h4
  ·exact hap _ _ _ h.blk (by decide) h4
  ·have:=h.blk.lt;omega
 have hmap:¬ (R.dv.ownBlock=some R.pm):=fun hk=>by
  obtain⟨-,cur,hc⟩:=own_obj1 h.devs hk;have:=h.tab.map;unfold MapB at this;rw [hc] at this
  cases this
 have hs2:Stp (R.F pw) (R.F pw) w (W.setCell ⟨pw,1,none⟩ (.slice (some ⟨g,0,none⟩) (S.ds.length+1) cap)):=Stp.of_mod (hM.setCell (.inl (.inl rfl)) _);have hnt:pw≠R.pt:=fun e=>by
  have h1:=h.blk;have h2:=h.tab.blk;rw [e] at h1;unfold Blk at h1 h2;rw [h1] at h2;injection h2 with h2;injection h2 with _ h2;revert h2;decide
 have hnm:pw≠R.pm:=fun e=>by
  have h1:=h.blk;have h2:=h.tab.map;rw [e] at h1;unfold Blk at h1;unfold MapB at h2;rw [h1] at h2;cases h2
 refine ⟨g,cap,W,h1,⟨?_,⟨?_,?_,h.tab.once,h.tab.low⟩,?_,h.ns,fun x hx=>(h.ents x hx).wd h hs2⟩,⟨hs2.mod,fun k hk=>?_⟩,hbW,h3⟩
 ·exact hbW.set 1 _
 ·exact (h.tab.blk.mod h3 (hap _ _ _ h.tab.blk (by decide))).setOther _ _ hnt
 ·exact MapB.setOther ((h3.block _ h.tab.map.lt hmap).trans h.tab.map) _ _ hnm
 ·show World.ownsRow _ 0 217 6 _ (S.ds ++ [_]).length ((S.ds ++ [_]).flatMap Dv.cs);rw [List.length_append,List.length_singleton,List.flatMap_append,List.flatMap_singleton];refine own_mod h2 ((Mod.refl (fun k=>k=pw) W).setCell (a:=⟨pw,1,none⟩) (.inl rfl) _) (fun k hk e=>?_);subst hk;simp only [Value.ownBlock,Option.some.injEq] at e;exact hpg e.symm
 ·rcases hk with hk | hk | hk | hk
  ·exact .inl (.inl hk)
  ·exact .inl (.inr (.inl hk))
  ·exact .inl (.inr (.inr (.inl hk)))
  ·simp only [Value.ownBlock,Option.some.injEq] at hk;subst hk;rcases h4 with h4 | h4
   ·exact .inl (.inr (.inr (.inr h4)))
   ·exact .inr (by omega)
end
end
section
open Go.RowKit
theorem Blk.row {w:World} {B:Nat} {xs vs:List Value} {T:TypeId} (h:Blk w B xs.toArray T) (hl:xs.length=vs.length):Blk (putRow w B 0 vs) B vs.toArray T:=by
 have h1:=putRow_blk vs w 0 _ h;have h2:=setAll_head vs xs [] hl;rw [List.append_nil,List.append_nil] at h2;rw [List.toList_toArray,h2] at h1;exact h1
theorem Blk.set12 {w:World} {B:Nat} {x0 x1 x2 x3 x4 x5 x6 x7 x8 x9 x10 x11 v0 v1 v2 v3 v4 v5 v6 v7 v8 v9 v10 v11:Value} {T:TypeId} (h:Blk w B #[x0,x1,x2,x3,x4,x5,x6,x7,x8,x9,x10,x11] T):Blk ((((((((((((w.setCell ⟨B,0,none⟩ v0).setCell ⟨B,1,none⟩ v1).setCell ⟨B,2,none⟩ v2).setCell ⟨B,3,none⟩ v3).setCell ⟨B,4,none⟩ v4).setCell ⟨B,5,none⟩ v5).setCell ⟨B,6,none⟩ v6).setCell ⟨B,7,none⟩ v7).setCell ⟨B,8,none⟩ v8).setCell ⟨B,9,none⟩ v9).setCell ⟨B,10,none⟩ v10).setCell ⟨B,11,none⟩ v11) B #[v0,v1,v2,v3,v4,v5,v6,v7,v8,v9,v10,v11] T:=
 Blk.row (xs:=[x0,x1,x2,x3,x4,x5,x6,x7,x8,x9,x10,x11]) (vs:=[v0,v1,v2,v3,v4,v5,v6,v7,v8,v9,v10,v11]) h rfl
theorem below_row {N:Nat} {w0:World} {B:Nat} (hB:N≤B):∀ (vs:List Value) (w:World) (o:Nat),Below N w0 w→Below N w0 (putRow w B o vs)
 | [],_,_,h=>h
 | v :: vs,w,o,h=>by unfold putRow;exact below_row hB vs _ _ (h.setCell hB v)
theorem below_set12 {N:Nat} {w0 w:World} {B:Nat} {v0 v1 v2 v3 v4 v5 v6 v7 v8 v9 v10 v11:Value} (h:Below N w0 w) (hB:N≤B):Below N w0 ((((((((((((w.setCell ⟨B,0,none⟩ v0).setCell ⟨B,1,none⟩ v1).setCell ⟨B,2,none⟩ v2).setCell ⟨B,3,none⟩ v3).setCell ⟨B,4,none⟩ v4).setCell ⟨B,5,none⟩ v5).setCell ⟨B,6,none⟩ v6).setCell ⟨B,7,none⟩ v7).setCell ⟨B,8,none⟩ v8).setCell ⟨B,9,none⟩ v9).setCell ⟨B,10,none⟩ v10).setCell ⟨B,11,none⟩ v11):=
 below_row hB [v0,v1,v2,v3,v4,v5,v6,v7,v8,v9,v10,v11] w 0 h
theorem Blk.cells12 {w:World} {B:Nat} {x0 x1 x2 x3 x4 x5 x6 x7 x8 x9 x10 x11:Value} {T:TypeId} (h:Blk w B #[x0,x1,x2,x3,x4,x5,x6,x7,x8,x9,x10,x11] T) :
  w.cell? ⟨B,0,none⟩=some (x0)∧w.cell? ⟨B,1,none⟩=some (x1)∧w.cell? ⟨B,2,none⟩=some (x2)∧w.cell? ⟨B,3,none⟩=some (x3)∧w.cell? ⟨B,4,none⟩=some (x4)∧w.cell? ⟨B,5,none⟩=some (x5)∧w.cell? ⟨B,6,none⟩=some (x6)∧w.cell? ⟨B,7,none⟩=some (x7)∧w.cell? ⟨B,8,none⟩=some (x8)∧w.cell? ⟨B,9,none⟩=some (x9)∧w.cell? ⟨B,10,none⟩=some (x10)∧w.cell? ⟨B,11,none⟩=some (x11):=
 ⟨h.cell 0,h.cell 1,h.cell 2,h.cell 3,h.cell 4,h.cell 5,h.cell 6,h.cell 7,h.cell 8,h.cell 9,h.cell 10,h.cell 11⟩
theorem place_results {tmps:Array Value} {W:World} {B:Nat} {a:An} {ea:Option Addr} {el ec:Nat} {e:Int} (hb:Blk W B #[.int .i64 a.no,.int .i64 a.dev,.int .i64 a.kind,.int .i64 a.mode,.int .i64 a.uid,.int .i64 a.gid,.int .i64 a.mtime,.int .i64 a.ctime,.int .i64 a.links,.int .i64 a.up,.string a.data,.slice ea el ec] 163)
  (h8:tmps.getD 8 undef=.pointer (some ⟨B,0,none⟩)) (h9:tmps.getD 9 undef=.int .i64 e):(results Tryz.f131 tmps).run Tryz.prog W=.ok (.tuple #[a.v ea el ec,.int .i64 e]) W:=by
 obtain⟨q0,q1,q2,q3,q4,q5,q6,q7,q8,q9,q10,q11⟩:=hb.cells12;rw [Array.getD_eq_getD_getElem?] at h8 h9;simp [results,Tryz.results131,go_sem,An.v,h8,h9,q0,q1,q2,q3,q4,q5,q6,q7,q8,q9,q10,q11]
section
variable {w w':World} {pw:Nat} {R:Rp} {S:Fs}
theorem place_none (h:WdAt w pw R S) {N:Nat} (hk:FsOk S N) (c:Cr) (dir:Int) (s:ByteArray) (hs:s.size≤9223372036854775807) (hg:S.get dir=none) :
  Calls Tryz.prog 131 #[.pointer (some ⟨pw,0,none⟩),.agg #[.int .i64 c.u,.int .i64 c.g],.int .i64 dir,.string s] w fun e w'=>e=.returned (.tuple #[an0.v none 0 0,.int .i64 5])∧Below w.heap.size w w':=by
 have HDv:=Lib.hid (fun w1 (hb1:Below w.heap.size w w1)=>wdevs_any (h.keep hb1) hk.d1);have hnz:=hk.d1;generalize S.ds.length=n at HDv hnz;have hz:((n:Int) == 0)=false:=by simp;omega
 have HG:=Lib.hid (fun w1 (hb1:Below w.heap.size w w1)=>wget_no (h.keep hb1) hg);have HCk:=Lib.hid (fun w=>ncheck_any s w hs);obtain⟨pc,-,pz⟩:=h.blk.facts;unfold An.v an0 at HG;generalize checkE s=ce at HCk;clear h hk hg;go_enter Tryz.func131,Tryz.ntmps131;go_wp2_with fail;refine (HDv.out _ (balloc (balloc (Below.refl _ _) _) _)).mono ?_;rintro e w1 ⟨rfl,rfl⟩;go_wp2_with fail;refine (HG.out _ (balloc (balloc (Below.refl _ _) _) _)).mono ?_;rintro e w1 ⟨rfl,hb1⟩;have hb2:=bnext (balloc (balloc (Below.refl w.heap.size w) _) _) hb1;have hR:Blk w1 (w.heap.size+1) #[.int .i64 0,.int .i64 0,.int .i64 0,.int .i64 0,.int .i64 0,.int .i64 0,.int .i64 0,.int .i64 0,.int .i64 0,.int .i64 0,.string ⟨#[]⟩,.slice none 0 0] 163:=by
  have:=((Blk.new (w.alloc (.cells #[.int .i64 c.u,.int .i64 c.g] 54)) #[.int .i64 0,.int .i64 0,.int .i64 0,.int .i64 0,.int .i64 0,.int .i64 0,.int .i64 0,.int .i64 0,.int .i64 0,.int .i64 0,.string ⟨#[]⟩,.slice none 0 0] 163).keep hb1)
  rwa [World.size_alloc] at this
 have hRX:=hR.old (.cells #[.int .i64 0,.int .i64 0,.int .i64 0,.int .i64 0,.int .i64 0,.int .i64 0,.int .i64 0,.int .i64 0,.int .i64 0,.int .i64 0,.string ByteArray.empty,.slice none 0 0] 163);have hbX:=balloc hb2 (.cells #[.int .i64 0,.int .i64 0,.int .i64 0,.int .i64 0,.int .i64 0,.int .i64 0,.int .i64 0,.int .i64 0,.int .i64 0,.int .i64 0,.string ByteArray.empty,.slice none 0 0] 163);clear hR hb1 hb2 pc;go_wp2_with fail;generalize w1.alloc (.cells #[.int .i64 0,.int .i64 0,.int .i64 0,.int .i64 0,.int .i64 0,.int .i64 0,.int .i64 0,.int .i64 0,.int .i64 0,.int .i64 0,.string ByteArray.empty,.slice none 0 0] 163)=X at hRX hbX ⊢;refine (HCk.out _).mono ?_;rintro e w2 ⟨rfl,rfl⟩;have HRX:=Lib.hid hRX;have HBX:=Lib.hid hbX;obtain⟨rc,rf,rz⟩:=hRX.facts;clear hRX hbX;go_wp2_with fail;exact bodyPost_ret (place_results (a:=an0) HRX.out.set12 rfl rfl) rfl ⟨rfl,below_set12 HBX.out (Nat.le_succ _)⟩
theorem wget_fix (h:WdAt w pw R S) {k:Int} {a:An} (hg:S.get k=some a):∃ ea el ec,EntsAt w ea el ec a.ents∧∀ w1,Below w.heap.size w w1→
  Calls Tryz.prog 132 #[.pointer (some ⟨R.pt,0,none⟩),.int .i64 k] w1 fun e w'=>e=.returned (.tuple #[a.v ea el ec,.bool true])∧Below w1.heap.size w1 w':=by
 obtain⟨g,-,rfl,hf,he⟩:=G_of h hg;exact⟨g.ea,g.el,g.ec,he,fun w1 hb1=>get_yes g.nd k w1 R.pt R.pm S.last _ R.clk (h.keep hb1).tab hf⟩
theorem place_some (h:WdAt w pw R S) {N:Nat} (hk:FsOk S N) (c:Cr) (dir:Int) (s:ByteArray) (hs:s.size≤9223372036854775807) (d:An) (hg:S.get dir=some d) :
  Calls Tryz.prog 131 #[.pointer (some ⟨pw,0,none⟩),.agg #[.int .i64 c.u,.int .i64 c.g],.int .i64 dir,.string s] w fun e w'=>((S.placeE c dir s≠0∧e=.returned (.tuple #[an0.v none 0 0,.int .i64 (S.placeE c dir s)]))∨(S.placeE c dir s=0∧∃ ea el ec,e=.returned (.tuple #[d.v ea el ec,.int .i64 0])∧EntsAt w ea el ec d.ents))∧Below w.heap.size w w':=by
 have HDv:=Lib.hid (fun w1 (hb1:Below w.heap.size w w1)=>wdevs_any (h.keep hb1) hk.d1);have hnz:=hk.d1;generalize S.ds.length=n at HDv hnz;have hz:((n:Int) == 0)=false:=by simp;omega
 obtain⟨ea,el,ec,he,hG⟩:=wget_fix h hg;have HE:=Lib.hid he;have HG:=Lib.hid hG;unfold An.v at HG;have HCk:=Lib.hid (fun w=>ncheck_any s w hs);have HPl:=Lib.hid (show S.placeE c dir s=if d.kind≠1 then 9 else if checkE s≠0 then checkE s else if d.may c 3=false then 6 else 0 by unfold Fs.placeE;rw [hg]);have HNd:=Lib.hid (fun w=>pnode_any c d ea el ec 3 w);unfold Cr.v An.v at HNd;obtain⟨pc,-,pz⟩:=h.blk.facts;generalize checkE s=ce at HCk HPl;generalize S.placeE c dir s=pe at HPl ⊢;generalize d.may c 3=my at HPl HNd;clear h hk hg he hG;go_enter Tryz.func131,Tryz.ntmps131;go_wp2_with fail;refine (HDv.out _ (balloc (balloc (Below.refl _ _) _) _)).mono ?_;rintro e w1 ⟨rfl,rfl⟩;go_wp2_with fail;refine (HG.out _ (balloc (balloc (Below.refl _ _) _) _)).mono ?_;rintro e w1 ⟨rfl,hb1⟩;have hb2:=bnext (balloc (balloc (Below.refl w.heap.size w) _) _) hb1;have hR:Blk w1 (w.heap.size+1) #[.int .i64 0,.int .i64 0,.int .i64 0,.int .i64 0,.int .i64 0,.int .i64 0,.int .i64 0,.int .i64 0,.int .i64 0,.int .i64 0,.string ⟨#[]⟩,.slice none 0 0] 163:=by
  have:=((Blk.new (w.alloc (.cells #[.int .i64 c.u,.int .i64 c.g] 54)) #[.int .i64 0,.int .i64 0,.int .i64 0,.int .i64 0,.int .i64 0,.int .i64 0,.int .i64 0,.int .i64 0,.int .i64 0,.int .i64 0,.string ⟨#[]⟩,.slice none 0 0] 163).keep hb1)
  rwa [World.size_alloc] at this
 have hCr:Blk w1 w.heap.size #[.int .i64 c.u,.int .i64 c.g] 54:=((Blk.new w #[.int .i64 c.u,.int .i64 c.g] 54).old (.cells #[.int .i64 0,.int .i64 0,.int .i64 0,.int .i64 0,.int .i64 0,.int .i64 0,.int .i64 0,.int .i64 0,.int .i64 0,.int .i64 0,.string ⟨#[]⟩,.slice none 0 0] 163)).keep hb1;have hRX:=hR.old (.cells #[.int .i64 d.no,.int .i64 d.dev,.int .i64 d.kind,.int .i64 d.mode,.int .i64 d.uid,.int .i64 d.gid,.int .i64 d.mtime,.int .i64 d.ctime,.int .i64 d.links,.int .i64 d.up,.string d.data,.slice ea el ec] 163);have hCX:=hCr.old (.cells #[.int .i64 d.no,.int .i64 d.dev,.int .i64 d.kind,.int .i64 d.mode,.int .i64 d.uid,.int .i64 d.gid,.int .i64 d.mtime,.int .i64 d.ctime,.int .i64 d.links,.int .i64 d.up,.string d.data,.slice ea el ec] 163);have hDX:=Blk.new w1 #[.int .i64 d.no,.int .i64 d.dev,.int .i64 d.kind,.int .i64 d.mode,.int .i64 d.uid,.int .i64 d.gid,.int .i64 d.mtime,.int .i64 d.ctime,.int .i64 d.links,.int .i64 d.up,.string d.data,.slice ea el ec] 163;have hbX:=balloc hb2 (.cells #[.int .i64 d.no,.int .i64 d.dev,.int .i64 d.kind,.int .i64 d.mode,.int .i64 d.uid,.int .i64 d.gid,.int .i64 d.mtime,.int .i64 d.ctime,.int .i64 d.links,.int .i64 d.up,.string d.data,.slice ea el ec] 163);clear hR hCr hb1 hb2 pc;go_wp2_with fail;generalize w1.alloc (.cells #[.int .i64 d.no,.int .i64 d.dev,.int .i64 d.kind,.int .i64 d.mode,.int .i64 d.uid,.int .i64 d.gid,.int .i64 d.mtime,.int .i64 d.ctime,.int .i64 d.links,.int .i64 d.up,.string d.data,.slice ea el ec] 163)=X at hRX hCX hDX hbX ⊢;refine (HCk.out _).mono ?_;rintro e w2 ⟨rfl,rfl⟩;have HRX:=Lib.hid hRX;have HBX:=Lib.hid hbX;have HDX:=Lib.hid hDX;have HCX:=Lib.hid hCX;obtain⟨rc,rf,rz⟩:=hRX.facts;obtain⟨dc,df,dz⟩:=hDX.facts;obtain⟨cc,-,-⟩:=hCX.facts;clear hRX hbX hDX hCX;by_cases h1:d.kind=1
 ·have q1:(d.kind == 1)=true:=by simpa using h1
  have q2:(d.kind != 1)=false:=by simpa using h1
  by_cases h2:ce=0
  ·have q3:(ce != 0)=false:=by simpa using h2
   cases my
   ·have HE6:=Lib.hid (show pe=6 by rw [HPl.out];simp [h1,h2]);clear h1 h2;go_wp2_with fail;refine (HNd.out _).mono ?_;rintro e w5 ⟨rfl,hb5⟩;have hRX5:=HRX.out.keep hb5;have hBX5:=HBX.out.trans (hb5.mono HBX.out.size);have HRX5:=Lib.hid hRX5;have HBX5:=Lib.hid hBX5;clear rc rf rz dc df dz cc;obtain⟨rc,rf,rz⟩:=hRX5.facts;clear hRX5 hBX5 hb5;go_wp2_with fail;exact bodyPost_ret (place_results (a:=an0) HRX5.out.set12 rfl rfl) rfl ⟨.inl ⟨by rw [HE6.out];decide,by rw [HE6.out]⟩,below_set12 HBX5.out (Nat.le_succ _)⟩
   ·have HE0:=Lib.hid (show pe=0 by rw [HPl.out];simp [h1,h2]);clear h1 h2;go_wp2_with fail;refine (HNd.out _).mono ?_;rintro e w5 ⟨rfl,hb5⟩;have hRX5:=HRX.out.keep hb5;have hDX5:=HDX.out.keep hb5;have hBX5:=HBX.out.trans (hb5.mono HBX.out.size);have HRX5:=Lib.hid hRX5;have HBX5:=Lib.hid hBX5;clear rc rf rz dc df dz cc;obtain⟨rc,rf,rz⟩:=hRX5.facts;obtain⟨dc,-,-⟩:=hDX5.facts;clear hRX5 hBX5 hb5 hDX5;go_wp2_with fail;exact bodyPost_ret (place_results (a:=d) (ea:=ea) (el:=el) (ec:=ec) HRX5.out.set12 rfl rfl) rfl ⟨.inr ⟨HE0.out,ea,el,ec,rfl,HE.out⟩,below_set12 HBX5.out (Nat.le_succ _)⟩
  ·have q3:(ce != 0)=true:=by simpa using h2
   have HEc:=Lib.hid (show pe=ce∧ce≠0 by refine ⟨?_,h2⟩;rw [HPl.out];simp [h1,h2]);clear h1 h2;go_wp2_with fail;exact bodyPost_ret (place_results (a:=an0) HRX.out.set12 rfl rfl) rfl ⟨.inl ⟨by rw [HEc.out.1];exact HEc.out.2,by rw [HEc.out.1]⟩,below_set12 HBX.out (Nat.le_succ _)⟩
 ·have q2:(d.kind != 1)=true:=by simpa using h1
  have HE9:=Lib.hid (show pe=9 by rw [HPl.out];simp [h1]);clear h1;go_wp2_with fail;exact bodyPost_ret (place_results (a:=an0) HRX.out.set12 rfl rfl) rfl ⟨.inl ⟨by rw [HE9.out];decide,by rw [HE9.out]⟩,below_set12 HBX.out (Nat.le_succ _)⟩
end
end
end Go.Proofs.YtbndfmkgamdgeaaGreatDoor
