import Derived.Test.YtihdbncoijhihaaGreatDoorSN8
import Derived.Test.YtihdbncoijhihaaGreatDoorSN7
import Derived.Test.YtihdbncoijhihaaGreatDoorSN4
set_option linter.unusedVariables false
set_option linter.unusedSimpArgs false
set_option maxRecDepth 100000
set_option maxHeartbeats 16000000
namespace Go.Proofs.YtihdbncoijhihaaGreatDoor
section
open Go.RowKit
section
variable {w w':World} {pw:Nat} {R:Rp} {S:Fs}
theorem tk_root (b n:Int) (h:limB b n=true):tkV 0 0 b n 1 1=.tuple #[.agg #[.int .i64 1,.int .i64 1,.int .i64 b,.int .i64 n],.int .i64 0]:=by
 obtain⟨h1,h2,h3,h4⟩:=lim_of h;have e:tkE 0 0 b n 1 1=0:=by
  unfold tkE tkBad fineB;simp;omega
 have:=tkV_ok 0 0 b n 1 1 e;simpa using this
theorem WdAt.setRoot (h:WdAt w pw R S) {g cap:Nat} (hdv:R.dv=.slice (some ⟨g,0,none⟩) S.ds.length cap) {k:Nat} (hk:k<S.ds.length) (v:Dv) (hv:S.ds[k]=v) (r:Int) :
  WdAt (w.setCell ⟨g,k*6,none⟩ (.int .i64 r)) pw R {S with ds:=S.ds.set k {v with root:=r}}∧Mod (fun x=>x=g) w (w.setCell ⟨g,k*6,none⟩ (.int .i64 r)):=by
 have hm:Mod (fun x=>x=g) w (w.setCell ⟨g,k*6,none⟩ (.int .i64 r)):=(Mod.refl (fun x=>x=g) w).setCell (a:=⟨g,k*6,none⟩) (.inl rfl) _;refine ⟨?_,hm⟩;obtain⟨g',cap',hdv',-,-,-,-,-,cur,hcur⟩:=h.devF (by omega);have e:=hdv.symm.trans hdv';injection e with e;injection e with e;injection e with e;subst e;have hne:∀ (x:Nat) (vs:Array Value) (T:TypeId),Blk w x vs T→T≠243→x≠g:=by
  rintro x vs T hx hT rfl;unfold Blk at hx hcur;rw [hcur] at hx;injection hx with hx;injection hx with _ hx;exact hT hx.symm
 have h3:R.pm≠g:=by
  rintro e;have hm:=h.tab.map;unfold MapB at hm;rw [e] at hm;unfold Blk at hcur;rw [hcur] at hm
  cases hm
 refine ⟨h.blk.mod hm (hne _ _ _ h.blk (by decide)),⟨h.tab.blk.mod hm (hne _ _ _ h.tab.blk (by decide)),(hm.block _ h.tab.map.lt h3).trans h.tab.map,h.tab.once,h.tab.low⟩,?_,h.ns,fun x hx=>(h.ents x hx).turn (fun bk cr hc=>hm.block bk (Array.getElem?_eq_some_iff.1 hc).1 (hne bk cr _ hc (by decide))) hm.size⟩;show World.ownsRow _ 0 243 6 R.dv (S.ds.set k _).length ((S.ds.set k _).flatMap Dv.cs);rw [List.length_set];have h0:=h.devs;rw [hdv] at h0 ⊢;have hkl:k*6+5<(S.ds.flatMap Dv.cs).length:=by rw [flat_len'];omega
 have p1:=own_cell1 h0 (k*6) (by omega) (.int .i64 r);have hs:=setAll_flat Dv.cs_len ({v with root:=r}:Dv) S.ds k hk;rw [←hs];have hsame:∀ (l:List Value) (j:Nat) (u:Value),l[j]? = some u→l.set j u=l:=by
  intro l j u hu;obtain⟨hlt,rfl⟩:=List.getElem?_eq_some_iff.1 hu;rw [List.set_getElem_self]
 have c:∀ j (hj:j<6),(S.ds.flatMap Dv.cs)[k*6+j]? = (Dv.cs v)[j]?:=fun j hj=>by rw [flat_get Dv.cs_len S.ds k j hk hj,hv]
 have c':∀ j (u:Value),1≤j→j<6→(Dv.cs v)[j]? = some u→((S.ds.flatMap Dv.cs).set (k*6) (.int .i64 r)).set (k*6+j) u=(S.ds.flatMap Dv.cs).set (k*6) (.int .i64 r):=fun j u h1 h6 hu=>
  hsame _ _ _ (by rw [List.getElem?_set_ne (by omega),c j h6,hu])
 show World.ownsRow _ 0 243 6 _ _ ((((((((S.ds.flatMap Dv.cs).set (k*6) (.int .i64 r)).set (k*6+1) (.int .i64 v.over)).set (k*6+2) (.int .i64 v.b)).set (k*6+3) (.int .i64 v.n)).set (k*6+4) (.int .i64 v.mb)).set (k*6+5) (.int .i64 v.mn)));rw [c' 1 _ (by omega) (by omega) rfl,c' 2 _ (by omega) (by omega) rfl,c' 3 _ (by omega) (by omega) rfl,c' 4 _ (by omega) (by omega) rfl,c' 5 _ (by omega) (by omega) rfl];exact p1
def rootN (S:Fs):An:={an0 with dev:=(S.ds.length:Int)+1,kind:=1,mode:=493,links:=1}
theorem addRoot_eq (S:Fs) (hn:Nums S) (over b n:Int) :
  {(((S.addDev over b n).add (rootN S)).set {rootN S with no:=S.last+1,up:=S.last+1}) with ds:=(S.addDev over b n).ds.set S.ds.length {(⟨0,over,1,1,b,n⟩:Dv) with root:=S.last+1}}=S.addRoot over b n:=by
 unfold Fs.addRoot Fs.set Fs.add Fs.addDev;simp only [List.map_append,List.map_cons,List.map_nil];congr 1
 ·congr 1
  ·conv=>rhs;rw [←List.map_id S.ns]
   apply List.map_congr_left;intro x hx;have:=hn.low x hx;simp only [id_eq];rw [if_neg];simp;omega
  ·simp [rootN]
 ·rw [List.set_append_right _ _ (Nat.le_refl _)];simp
theorem nums_addDev {S:Fs} (hn:Nums S) (over b n:Int):Nums (S.addDev over b n):=⟨hn.rise,hn.low⟩
theorem wadd_no (over b n:Int) (hlim:limB b n=false) (w:World) (pw:Nat) :
  Calls Tryz.prog 250 #[.pointer (some ⟨pw,0,none⟩),.int .i64 over,.int .i64 b,.int .i64 n] w fun e w'=>e=.returned (.int .i64 3)∧Below w.heap.size w w':=by
 have HNw:=Lib.hid (fun w=>new_no b n hlim w);clear hlim;go_enter Tryz.func250,Tryz.ntmps250;go_wp2_with fail;refine (HNw.out _).mono ?_;rintro e w1 ⟨rfl,hb1⟩;go_wp2_with fail;go_ret;exact⟨rfl,balloc hb1 _⟩
theorem wadd_any (h:WdAt w pw R S) (hn:Nums S) (hl0:0≤S.last) (hl1:S.last≤1000000) (hd:S.ds.length≤7) (over b n:Int) (hlim:limB b n=true) :
  Calls Tryz.prog 250 #[.pointer (some ⟨pw,0,none⟩),.int .i64 over,.int .i64 b,.int .i64 n] w fun e w'=>e=.returned (.int .i64 0)∧∃ R',WdAt w' pw R' (S.addRoot over b n)∧Stp (R.F pw) (R'.F pw) w w':=by
 have HNw:=Lib.hid (fun w=>new_yes b n hlim w);have hT:=fun w=>take_any 0 0 b n 1 1 w;rw [tk_root b n hlim] at hT;have HT:=Lib.hid hT;have HW0:=Lib.hid h;obtain⟨pc,-,pz⟩:=h.blk.facts;clear hlim hT h;go_enter Tryz.func250,Tryz.ntmps250;go_wp2_with fail;refine (HNw.out _).mono ?_;rintro e w1 ⟨rfl,hb1⟩;go_wp2_with fail;refine (HT.out _).mono ?_;rintro e w2 ⟨rfl,hb2⟩;have hB9:=new_keep hb2;have hbA:=bnext (balloc hb1 (.cells #[.int .i64 0,.int .i64 0,.int .i64 b,.int .i64 n] 168)) hb2;have hle1:=hb1.size;have HB9:=Lib.hid hB9;obtain⟨qc,qf,qz⟩:=hB9.facts;have HX:=Lib.hid (below_set4 (v0:=.int .i64 1) (v1:=.int .i64 1) (v2:=.int .i64 b) (v3:=.int .i64 n) hbA hle1);have hB5:=hB9.set4 (v0:=.int .i64 1) (v1:=.int .i64 1) (v2:=.int .i64 b) (v3:=.int .i64 n);clear hB9 hb1 hb2;go_wp2_with fail;generalize (((w2.setCell ⟨w1.heap.size,0,none⟩ (.int .i64 1)).setCell ⟨w1.heap.size,1,none⟩ (.int .i64 1)).setCell ⟨w1.heap.size,2,none⟩ (.int .i64 b)).setCell ⟨w1.heap.size,3,none⟩ (.int .i64 n)=X at HX hB5 ⊢;clear qc qf qz;obtain⟨qc,qf,qz⟩:=hB5.facts;have hWX:=HW0.out.keep HX.out;have hb3:Below X.heap.size X (X.alloc (.cells #[.int .i64 0,.int .i64 over,.int .i64 1,.int .i64 1,.int .i64 b,.int .i64 n] 243)).drew:=((Below.refl _ X).alloc (Nat.le_refl _) _).drew;obtain⟨g,cap,Y,hrun,hWY,hSY,hbY,hMY⟩:=(hWX.keep hb3).app (by omega) ⟨X.heap.size,0,none⟩ over b n (World.news_of_block ((Blk.new X #[.int .i64 0,.int .i64 over,.int .i64 1,.int .i64 1,.int .i64 b,.int .i64 n] 243).drew));obtain⟨xc,-,xz⟩:=hWX.blk.facts;obtain⟨yc,yf,yz⟩:=hbY.facts;have mixed:Tryz.prog.follows .mixedOrders=true:=by kernel_rfl
 have HWY:=Lib.hid hWY;have HSY:=Lib.hid ((Stp.of_below (HX.out.trans (hb3.mono HX.out.size))).trans hSY);obtain⟨da,dc,hdv,-,-,-⟩:=own_form HW0.out.devs;rw [hdv] at xc yc hrun;clear pc hWY hSY hWX hMY hbY hdv;have HRun:=Lib.hid hrun;clear hrun;go_upto_region 5 with (fail)
 go_cut [] (fun wx=>wx=Y.setCell ⟨pw,1,none⟩ (.slice (some ⟨g,0,none⟩) (S.ds.length+1) cap))
 case first=>
  have hrun:=HRun.out
  go_region_law_o (refine step_app_run rfl rfl rfl rfl hrun ?_)
  all_goals
   go_wp2_with fail;go_meet;rfl
 case rest=>
  subst hcut;generalize Y.setCell ⟨pw,1,none⟩ (.slice (some ⟨g,0,none⟩) (S.ds.length+1) cap)=Z at HWY HSY ⊢;clear xc xz yc yf yz qc qf qz hb3 hbA HB9 hB5 HRun;have hWZ:=HWY.out;obtain⟨zc,zf,zz⟩:=hWZ.blk.facts;obtain⟨m,hm⟩:∃ m,S.ds.length=m:=⟨_,rfl⟩;have Hm:=Lib.hid hm;obtain⟨S2,hS2⟩:∃ S2,(S.addDev over b n).add (rootN S)=S2:=⟨_,rfl⟩;obtain⟨a5,ha5⟩:∃ a5:An,{rootN S with no:=S.last+1}=a5:=⟨_,rfl⟩;obtain⟨a6,ha6⟩:∃ a6:An,{rootN S with no:=S.last+1,up:=S.last+1}=a6:=⟨_,rfl⟩;have HAdd:=Lib.hid (show Calls Tryz.prog 293 #[.pointer (some ⟨R.pt,0,none⟩),.agg #[.int .i64 0,.int .i64 ((m:Int)+1),.int .i64 1,.int .i64 493,.int .i64 0,.int .i64 0,.int .i64 0,.int .i64 0,.int .i64 1,.int .i64 0,.string ByteArray.empty,.slice none 0 0]] Z fun e w'=>e=.returned (.int .i64 (S.last+1))∧∃ R':Rp,WdAt w' pw R' S2∧Stp (Rp.F {R with dv:=.slice (some ⟨g,0,none⟩) (S.ds.length+1) cap} pw) (R'.F pw) Z w'∧R'.pt=R.pt∧R'.dv=.slice (some ⟨g,0,none⟩) (S.ds.length+1) cap by
   rw [←hm,←hS2];exact hWZ.addN (rootN S) (EntsAt.nil Z) hl0 hl1)
  have HGet:=Lib.hid (show S2.get (S.last+1)=some a5 by rw [←hS2,←ha5,an_add (nums_addDev hn over b n)];exact if_pos rfl);have HV5:=Lib.hid (fun (ea:Option Addr) (el ec:Nat)=>show a5.v ea el ec=.agg #[.int .i64 (S.last+1),.int .i64 ((m:Int)+1),.int .i64 1,.int .i64 493,.int .i64 0,.int .i64 0,.int .i64 0,.int .i64 0,.int .i64 1,.int .i64 0,.string ByteArray.empty,.slice ea el ec] by rw [←ha5,←hm];rfl);have HV6:=Lib.hid (fun (ea:Option Addr) (el ec:Nat)=>show a6.v ea el ec=.agg #[.int .i64 (S.last+1),.int .i64 ((m:Int)+1),.int .i64 1,.int .i64 493,.int .i64 0,.int .i64 0,.int .i64 0,.int .i64 0,.int .i64 1,.int .i64 (S.last+1),.string ByteArray.empty,.slice ea el ec] by rw [←ha6,←hm];rfl);have HA6:=Lib.hid (show a6.no=S.last+1∧a6.ents=a5.ents by rw [←ha6,←ha5];exact ⟨rfl,rfl⟩);have HEq:=Lib.hid (show {(S2.set a6) with ds:=(S2.set a6).ds.set m {(⟨0,over,1,1,b,n⟩:Dv) with root:=S.last+1}}=S.addRoot over b n by rw [←hS2,←ha6,←hm];exact addRoot_eq S hn over b n);have HDk:=Lib.hid (show (S2.set a6).ds[m]? = some ⟨0,over,1,1,b,n⟩∧(S2.set a6).ds.length=m+1 by
   rw [←hS2,←hm];exact⟨by show (S.ds ++ [_])[S.ds.length]? = _;rw [List.getElem?_append_right (Nat.le_refl _)];simp,by show (S.ds ++ [_]).length=_;simp⟩)
  rw [hm] at zc;clear hWZ hm hS2 ha5 ha6;go_wp2_with fail;refine HAdd.out.mono ?_;rintro e w5 ⟨rfl,R5,hR1,hR2,hR3,hR4⟩;have HR5:=Lib.hid (And.intro hR1 (And.intro ((HSY.out).trans hR2) hR4));obtain⟨rc,-,rz⟩:=hR1.blk.facts;rw [hR4,Hm.out] at rc;obtain⟨ea,el,ec,hE,hG⟩:=wget_yes hR1 HGet.out;rw [HV5.out] at hG;have HG:=Lib.hid hG;have HE:=Lib.hid hE;clear hR1 hR2 hR3 hR4 hG hE zc zf zz;go_wp2_with fail;refine HG.out.mono ?_;rintro e w6 ⟨rfl,hb6⟩;have rc0:w6.cell? ⟨pw,0,none⟩=_:=(hb6.cell (p:=⟨pw,0,none⟩) rz).trans (rc 0);have hz6:=Nat.lt_of_lt_of_le rz hb6.size;have HB6:=Lib.hid (balloc hb6 (.cells #[.int .i64 (S.last+1),.int .i64 ((m:Int)+1),.int .i64 1,.int .i64 493,.int .i64 0,.int .i64 0,.int .i64 0,.int .i64 0,.int .i64 1,.int .i64 (S.last+1),.string ByteArray.empty,.slice ea el ec] 109));have B7:=Blk.new w6 #[.int .i64 (S.last+1),.int .i64 ((m:Int)+1),.int .i64 1,.int .i64 493,.int .i64 0,.int .i64 0,.int .i64 0,.int .i64 0,.int .i64 1,.int .i64 (S.last+1),.string ByteArray.empty,.slice ea el ec] 109;clear rc hb6 rz;go_wp2_with fail;have rc7:(w6.alloc (.cells #[.int .i64 (S.last+1),.int .i64 ((m:Int)+1),.int .i64 1,.int .i64 493,.int .i64 0,.int .i64 0,.int .i64 0,.int .i64 0,.int .i64 1,.int .i64 (S.last+1),.string ByteArray.empty,.slice ea el ec] 109)).cell? ⟨pw,0,none⟩=_:=(((Below.refl w6.heap.size w6).alloc (Nat.le_refl _) (.cells #[.int .i64 (S.last+1),.int .i64 ((m:Int)+1),.int .i64 1,.int .i64 493,.int .i64 0,.int .i64 0,.int .i64 0,.int .i64 0,.int .i64 1,.int .i64 (S.last+1),.string ByteArray.empty,.slice ea el ec] 109)).cell (p:=⟨pw,0,none⟩) hz6).trans rc0;generalize w6.alloc (.cells #[.int .i64 (S.last+1),.int .i64 ((m:Int)+1),.int .i64 1,.int .i64 493,.int .i64 0,.int .i64 0,.int .i64 0,.int .i64 0,.int .i64 1,.int .i64 (S.last+1),.string ByteArray.empty,.slice ea el ec] 109)=W7 at rc7 HB6 B7 ⊢;generalize w6.heap.size=B6 at B7 ⊢;obtain⟨bc,-,bz⟩:=B7.facts;have hd7:Below W7.heap.size W7 W7.drew:=(Below.refl _ W7).drew;have hb57:=HB6.out.trans (hd7.mono HB6.out.size);have hSet:=(HR5.out.1.keep hb57).setN a6 (ea:=ea) (el:=el) (ec:=ec) (by rw [HA6.out.2];exact HE.out.keep hb57) (b:=a5) (by rw [HA6.out.1];exact HGet.out);rw [HV6.out] at hSet;have HSet:=Lib.hid hSet;clear hSet rc0 hz6;refine wp_region_lex 5 mixed (by kernel_rfl) then_panic ?_;simp only [List.take_succ_cons,List.take_zero,List.drop_succ_cons,List.drop_zero]
  repeat still_step
  refine wpStill_nil ?_;go_wp2_with fail;refine HSet.out.mono ?_;rintro e w8 ⟨rfl,R8,hR1,hR2,hR3,hR4⟩;have hdv8:R8.dv=.slice (some ⟨g,0,none⟩) (m+1) cap:=by rw [hR4,HR5.out.2.2,Hm.out]
  have hl8:(S2.set a6).ds.length=m+1:=HDk.out.2;have hk8:m<(S2.set a6).ds.length:=by omega
  have hv8:(S2.set a6).ds[m]=⟨0,over,1,1,b,n⟩:=by
   have:=HDk.out.1;rw [List.getElem?_eq_getElem hk8] at this;simpa using this
  obtain⟨g8,cap8,hdv9,hle8,h638,-,hc8,hf8,-⟩:=hR1.devF (by omega);have e8:=hdv9.symm.trans hdv8;injection e8 with e8 e9 e10;injection e8 with e8;injection e8 with e8;subst e8 e10;have c8:=(hc8 m hk8).c0;rw [hv8] at c8;obtain⟨rc,-,rz⟩:=hR1.blk.facts;rw [hdv8] at rc;obtain⟨hWF,hMF⟩:=hR1.setRoot (by rw [hl8];exact hdv8) hk8 _ hv8 (S.last+1);have HF:=Lib.hid (And.intro hWF (show Stp (R.F pw) (R8.F pw) w _ from ((HR5.out.2.1.trans (Stp.of_below hb57)).trans hR2).trans (Stp.of_mod (hMF.mono (fun x hx=>.inr (.inr (.inr (by rw [hdv8,hx];rfl))))))));rw [hl8] at hle8;clear hR1 hR2 hR3 hR4 hdv8 hl8 hk8 hv8 hc8 hWF hMF hdv9 e9 bc bz hd7 hb57 rc7;have hb3:(m:Int)<(m:Int)+1:=by omega
  have hb4:(0:Int)≤(m:Int):=by omega
  go_wp2_with fail;go_ret;refine ⟨rfl,R8,?_,HF.out.2⟩;rw [←HEq.out];exact HF.out.1
end
end
section
open Go.RowKit
section
variable {w w':World} {pw:Nat} {R:Rp} {S:Fs}
theorem root_new {S:Fs} {N:Nat} (over b n:Int):(S.addRoot over b n).root ((S.ds.length:Int)+1)=S.last+1:=by
 unfold Fs.root Fs.addRoot;simp;omega
theorem ds_new (S:Fs) (over b n:Int):(S.addRoot over b n).ds.length=S.ds.length+1:=by unfold Fs.addRoot;simp
theorem wmount_any (h:WdAt w pw R S) {N:Nat} (hk:FsOk S N) (hN:N≤1000000) (k b n:Int) :
  Calls Tryz.prog 195 #[.pointer (some ⟨pw,0,none⟩),.int .i64 k,.int .i64 b,.int .i64 n] w fun e w'=>e=.returned (.tuple #[.int .i64 (S.mount k b n).2.1,.int .i64 (S.mount k b n).2.2])∧∃ R',WdAt w' pw R' (S.mount k b n).1∧Stp (R.F pw) (R'.F pw) w w':=by
 have HW0:=Lib.hid h;have HNo:=Lib.hid (wnone_any h hk.d1);obtain⟨pc,-,pz⟩:=h.blk.facts
 cases hg:S.get k with
 | none=>
  have HM:=Lib.hid (show S.mount k b n=(S,0,5) by unfold Fs.mount;rw [hg]);have HG:=Lib.hid (wget_no h hg);unfold An.v an0 at HG;clear h hk hg;go_enter Tryz.func195,Tryz.ntmps195;go_wp2_with fail;refine HNo.out.mono ?_;rintro e w1 ⟨rfl,rfl⟩;go_wp2_with fail;refine HG.out.mono ?_;rintro e w1 ⟨rfl,hb1⟩;go_wp2_with fail;go_ret2;rw [HM.out];exact⟨rfl,R,HW0.out.keep (balloc hb1 _),Stp.of_below (balloc hb1 _)⟩
 | some a=>
  obtain⟨hao,hno,hk1,-⟩:=hk.get hg;obtain⟨ea,el,ec,-,hgc⟩:=wget_yes h hg;have HG:=Lib.hid hgc;unfold An.v at HG;by_cases hkd:a.kind=1
  ·have q1:(a.kind == 1)=true:=by simpa using hkd
   have q2:(a.kind != 1)=false:=by simpa using hkd
   have HOv:=Lib.hid (fun w1 (hb1:Below w.heap.size w w1)=>wover_any (h.keep hb1) hk.d1 k);have HRt:=Lib.hid (fun w1 (hb1:Below w.heap.size w w1)=>wroot_any (h.keep hb1) hk.d1 a.dev);have HMo:=Lib.hid (fun (hx:S.over k≠k∨S.root a.dev=k)=>show S.mount k b n=(S,0,16) by unfold Fs.mount;rw [hg];simp only;rw [if_neg (by simpa using hkd),if_pos hx]);have HMn:=Lib.hid (fun (hx:¬ (S.over k≠k∨S.root a.dev=k)) (hy:8≤S.ds.length∨limB b n=false)=>show S.mount k b n=(S,0,3) by unfold Fs.mount;rw [hg];simp only;rw [if_neg (by simpa using hkd),if_neg hx,if_pos hy]);have HMy:=Lib.hid (fun (hx:¬ (S.over k≠k∨S.root a.dev=k)) (hy:¬ (8≤S.ds.length∨limB b n=false))=>show S.mount k b n=(S.addRoot k b n,S.last+1,0) by unfold Fs.mount;rw [hg];simp only;rw [if_neg (by simpa using hkd),if_neg hx,if_neg hy]);have HK:=Lib.hid hk;clear h hg hkd hao hno hgc;generalize S.over k=ov at HOv HMo HMn HMy;generalize S.root a.dev=rt at HRt HMo HMn HMy;obtain⟨g,cap,hdv,-,-,-,-,-,-⟩:=HW0.out.devF hk.d1;rw [hdv] at pc;clear hk hdv;by_cases h1:ov=k
   ·by_cases h2:rt=k
    ·have HM:=Lib.hid (HMo.out (.inr h2));have q3:(ov != k)=false:=by simpa using h1
     have q4:(rt == k)=true:=by simpa using h2
     clear h1 h2;go_enter Tryz.func195,Tryz.ntmps195;go_wp2_with fail;refine HNo.out.mono ?_;rintro e w1 ⟨rfl,rfl⟩;go_wp2_with fail;refine HG.out.mono ?_;rintro e w1 ⟨rfl,hb1⟩;have hb2:=balloc hb1 (.cells #[.int .i64 a.no,.int .i64 a.dev,.int .i64 a.kind,.int .i64 a.mode,.int .i64 a.uid,.int .i64 a.gid,.int .i64 a.mtime,.int .i64 a.ctime,.int .i64 a.links,.int .i64 a.up,.string a.data,.slice ea el ec] 109);have B1:=Blk.new w1 #[.int .i64 a.no,.int .i64 a.dev,.int .i64 a.kind,.int .i64 a.mode,.int .i64 a.uid,.int .i64 a.gid,.int .i64 a.mtime,.int .i64 a.ctime,.int .i64 a.links,.int .i64 a.up,.string a.data,.slice ea el ec] 109;go_wp2_with fail;refine (HOv.out _ hb2).mono ?_;rintro e w2 ⟨rfl,hb3⟩;obtain⟨bc,-,-⟩:=(B1.keep hb3).facts;have hb4:=bnext hb2 hb3;go_wp2_with fail;refine (HRt.out _ hb4).mono ?_;rintro e w3 ⟨rfl,rfl⟩;go_wp2_with fail;go_ret2;rw [HM.out];exact⟨rfl,R,HW0.out.keep hb4,Stp.of_below hb4⟩
    ·have hx:¬ (ov≠k∨rt=k):=by rintro (h | h);exact h h1;exact h2 h
     have q3:(ov != k)=false:=by simpa using h1
     have q4:(rt == k)=false:=by simpa using h2
     have HMn:=Lib.hid (HMn.out hx);have HMy:=Lib.hid (HMy.out hx);clear h1 h2 hx;go_enter Tryz.func195,Tryz.ntmps195;go_wp2_with fail;refine HNo.out.mono ?_;rintro e w1 ⟨rfl,rfl⟩;go_wp2_with fail;refine HG.out.mono ?_;rintro e w1 ⟨rfl,hb1⟩;have hb2:=balloc hb1 (.cells #[.int .i64 a.no,.int .i64 a.dev,.int .i64 a.kind,.int .i64 a.mode,.int .i64 a.uid,.int .i64 a.gid,.int .i64 a.mtime,.int .i64 a.ctime,.int .i64 a.links,.int .i64 a.up,.string a.data,.slice ea el ec] 109);have B1:=Blk.new w1 #[.int .i64 a.no,.int .i64 a.dev,.int .i64 a.kind,.int .i64 a.mode,.int .i64 a.uid,.int .i64 a.gid,.int .i64 a.mtime,.int .i64 a.ctime,.int .i64 a.links,.int .i64 a.up,.string a.data,.slice ea el ec] 109;go_wp2_with fail;refine (HOv.out _ hb2).mono ?_;rintro e w2 ⟨rfl,hb3⟩;obtain⟨bc,-,-⟩:=(B1.keep hb3).facts;have hb4:=bnext hb2 hb3;go_wp2_with fail;refine (HRt.out _ hb4).mono ?_;rintro e w3 ⟨rfl,rfl⟩;have HB4:=Lib.hid hb4;have pc1:w2.cell? ⟨pw,1,none⟩=_:=(hb4.cell (p:=⟨pw,1,none⟩) pz).trans (pc 1);have HW2:=Lib.hid (HW0.out.keep hb4);clear pc B1 bc hb1 hb2 hb3 hb4;by_cases h8:8≤S.ds.length
     ·have HM:=Lib.hid (HMn.out (.inl h8));have h8':(8:Int)≤(S.ds.length:Int):=by omega
      generalize S.ds.length=m at pc1 h8';clear h8;go_wp2_with fail;go_ret2;rw [HM.out];exact⟨rfl,R,HW2.out,Stp.of_below HB4.out⟩
     ·have h8':¬ (8:Int)≤(S.ds.length:Int):=by omega
      by_cases hlim:limB b n=true
      ·have HM:=Lib.hid (HMy.out (by rintro (h | h);exact h8 h;rw [hlim] at h;cases h));have HAd:=Lib.hid (wadd_any HW2.out HK.out.nums HK.out.l0 (by have:=HK.out.lN;omega) (by omega) k b n hlim);have HRn:=Lib.hid (root_new (S:=S) (N:=0) k b n);have HDn:=Lib.hid (ds_new S k b n);have HDp:=Lib.hid (show 0<(S.addRoot k b n).ds.length by rw [ds_new];omega);generalize S.addRoot k b n=S' at HM HAd HRn HDn HDp;generalize S.ds.length=m at pc1 h8' HRn HDn;clear h8;go_wp2_with fail;refine HAd.out.mono ?_;rintro e w4 ⟨rfl,R',hR1,hR2⟩;have HR:=Lib.hid (And.intro hR1 ((Stp.of_below HB4.out).trans hR2));have hrt:=wroot_any hR1 HDp.out ((m:Int)+1);rw [HRn.out] at hrt;have HRT:=Lib.hid hrt;obtain⟨g',cap',hdv',-,-,-,-,-,-⟩:=hR1.devF HDp.out;obtain⟨rc,-,-⟩:=hR1.blk.facts;rw [hdv',HDn.out] at rc;clear hR1 hR2 hrt hdv';go_wp2_with fail;refine HRT.out.mono ?_;rintro e w5 ⟨rfl,rfl⟩;go_wp2_with fail;go_ret2;rw [HM.out];exact⟨rfl,R',HR.out.1,HR.out.2⟩
      ·have hlim':limB b n=false:=by simpa using hlim
       have HM:=Lib.hid (HMn.out (.inr hlim'));have HAd:=Lib.hid (wadd_no k b n hlim' w2 pw);generalize S.ds.length=m at pc1 h8';clear h8 hlim hlim';go_wp2_with fail;refine HAd.out.mono ?_;rintro e w4 ⟨rfl,hb5⟩;have HB5:=Lib.hid hb5;clear hb5;go_wp2_with fail;go_ret2;rw [HM.out];exact⟨rfl,R,HW2.out.keep HB5.out,Stp.of_below (bnext HB4.out HB5.out)⟩
   ·have HM:=Lib.hid (HMo.out (.inl h1));have q3:(ov != k)=true:=by simpa using h1
    clear h1;go_enter Tryz.func195,Tryz.ntmps195;go_wp2_with fail;refine HNo.out.mono ?_;rintro e w1 ⟨rfl,rfl⟩;go_wp2_with fail;refine HG.out.mono ?_;rintro e w1 ⟨rfl,hb1⟩;have hb2:=balloc hb1 (.cells #[.int .i64 a.no,.int .i64 a.dev,.int .i64 a.kind,.int .i64 a.mode,.int .i64 a.uid,.int .i64 a.gid,.int .i64 a.mtime,.int .i64 a.ctime,.int .i64 a.links,.int .i64 a.up,.string a.data,.slice ea el ec] 109);go_wp2_with fail;refine (HOv.out _ hb2).mono ?_;rintro e w2 ⟨rfl,hb3⟩;have hb4:=bnext hb2 hb3;go_wp2_with fail;go_ret2;rw [HM.out];exact⟨rfl,R,HW0.out.keep hb4,Stp.of_below hb4⟩
  ·have q1:(a.kind != 1)=true:=by simpa using hkd
   have HM:=Lib.hid (show S.mount k b n=(S,0,9) by unfold Fs.mount;rw [hg];simp only;rw [if_pos hkd]);clear h hk hg hkd hao hno hgc;go_enter Tryz.func195,Tryz.ntmps195;go_wp2_with fail;refine HNo.out.mono ?_;rintro e w1 ⟨rfl,rfl⟩;go_wp2_with fail;refine HG.out.mono ?_;rintro e w1 ⟨rfl,hb1⟩;go_wp2_with fail;go_ret2;rw [HM.out];exact⟨rfl,R,HW0.out.keep (balloc hb1 _),Stp.of_below (balloc hb1 _)⟩
theorem wnew_yes (b n:Int) (hlim:limB b n=true) (w:World) :
  Calls Tryz.prog 193 #[.int .i64 b,.int .i64 n] w fun e w'=>∃ pw R,e=.returned (.tuple #[.pointer (some ⟨pw,0,none⟩),.int .i64 0])∧WdAt w' pw R (fs0.addRoot 0 b n)∧Below w.heap.size w w'∧∀ k,R.F pw k→w.heap.size≤k:=by
 have HN:=Lib.hid (new_table w);go_enter Tryz.func193,Tryz.ntmps193;go_wp2_with fail;refine HN.out.mono ?_;rintro e w1 ⟨rfl,hT,hb1⟩;have hb2:=balloc hb1 (.cells #[.pointer (some ⟨w.heap.size+1,0,none⟩),.slice none 0 0] 196);have hW:WdAt (w1.alloc (.cells #[.pointer (some ⟨w.heap.size+1,0,none⟩),.slice none 0 0] 196)) w1.heap.size ⟨w.heap.size+1,w.heap.size,.slice none 0 0,[],0⟩ fs0:=
  ⟨Blk.new _ _ _,hT.keep ((Below.refl _ _).alloc (Nat.le_refl _) _),World.ownsRow_nil _ _ _ _,rfl,fun g hg=>by cases hg⟩
 have hF:∀ k,Rp.F ⟨w.heap.size+1,w.heap.size,.slice none 0 0,[],0⟩ w1.heap.size k→w.heap.size≤k:=by
  rintro k (hk | hk | hk | hk)
  ·have:=hb1.size;omega
  ·simp only at hk;omega
  ·simp only at hk;omega
  ·cases hk
 have HAd:=Lib.hid (wadd_any hW ⟨List.Pairwise.nil,fun x hx=>by cases hx⟩ (by decide) (by decide) (by decide) 0 b n hlim);have HF:=Lib.hid hF;have HB2:=Lib.hid hb2;clear hT hb1 hb2 hW hF;go_wp2_with fail;refine HAd.out.mono ?_;rintro e w4 ⟨rfl,R',hR1,hR2⟩;have HR:=Lib.hid (And.intro hR1 hR2);clear hR1 hR2;go_wp2_with fail;go_ret2;exact⟨_,R',rfl,HR.out.1,HB2.out.trans (HR.out.2.below HF.out HB2.out.size),HR.out.2.above HF.out HB2.out.size⟩
end
end
section
open Go.RowKit
theorem pmay_any (cu cg uid gid mode want:Int) (w:World) :
  Calls Tryz.prog 166 #[.agg #[.int .i64 cu,.int .i64 cg],.int .i64 uid,.int .i64 gid,.int .i64 mode,.int .i64 want] w fun e w'=>e=.returned (.bool (permB cu cg uid gid mode want))∧Below w.heap.size w w':=by
 unfold permB;by_cases h0:cu=0
 ·subst h0;rw [if_pos rfl];go_enter Tryz.func166,Tryz.ntmps166
  go_wp2
  go_ret;exact⟨rfl,by go_grown⟩
 ·rw [if_neg h0];have q0:(cu == 0)=false:=by simpa using h0
  by_cases h1:cu=uid
  ·subst h1;rw [if_pos rfl];go_enter Tryz.func166,Tryz.ntmps166
   go_wp2
   go_ret;exact⟨rfl,by go_grown⟩
  ·rw [if_neg h1];have q1:(cu == uid)=false:=by simpa using h1
   by_cases h2:cg=gid
   ·subst h2;rw [if_pos rfl];clear h0 h1;go_enter Tryz.func166,Tryz.ntmps166
    go_wp2
    go_ret;exact⟨rfl,by go_grown⟩
   ·rw [if_neg h2];have q2:(cg == gid)=false:=by simpa using h2
    clear h0 h1 h2;go_enter Tryz.func166,Tryz.ntmps166
    go_wp2
    go_ret;exact⟨rfl,by go_grown⟩
def Cr.v (c:Cr):Value:=.agg #[.int .i64 c.u,.int .i64 c.g]
theorem pnode_any (c:Cr) (a:An) (ea:Option Addr) (el ec:Nat) (want:Int) (w:World) :
  Calls Tryz.prog 99 #[c.v,a.v ea el ec,.int .i64 want] w fun e w'=>e=.returned (.bool (a.may c want))∧Below w.heap.size w w':=by
 unfold Cr.v An.v An.may;go_enter Tryz.func99,Tryz.ntmps99;go_wp2_with fail;refine (pmay_any _ _ _ _ _ _ _).mono ?_;rintro e w1 ⟨rfl,hb1⟩;go_wp2_with fail;go_ret;exact⟨rfl,bnext (balloc (balloc (Below.refl _ _) _) _) hb1⟩
theorem powns_any (c:Cr) (a:An) (ea:Option Addr) (el ec:Nat) (w:World) :
  Calls Tryz.prog 294 #[c.v,a.v ea el ec] w fun e w'=>e=.returned (.bool (ownsB c a))∧Below w.heap.size w w':=by
 unfold Cr.v An.v ownsB;go_enter Tryz.func294,Tryz.ntmps294
 go_wp2
 all_goals (go_ret;exact ⟨by first | rfl | simp [*],balloc (balloc (Below.refl _ _) _) _⟩)
theorem pfine_any (u g:Int) (w:World) :
  Calls Tryz.prog 255 #[.agg #[.int .i64 u,.int .i64 g]] w fun e w'=>e=.returned (.bool (idB u g))∧Below w.heap.size w w':=by
 unfold idB;go_enter Tryz.func255,Tryz.ntmps255
 go_wp2
 all_goals (go_ret;exact ⟨by simp [*];try omega,by go_grown⟩)
end
section
open Go.RowKit
theorem pathE_nil {s:ByteArray} (h:s.size=0):pathE s=5:=by
 unfold pathE;rw [if_pos (List.eq_nil_of_length_eq_zero (by rw [Array.length_toList];exact h))]
theorem pathE_head {s:ByteArray} (h:0<s.size) (h2:s[0]≠47):pathE s=1:=by
 have hd:s.data.toList.head? = some s[0]:=by
  have hl:0<s.data.toList.length:=by simpa using h
  rw [List.head?_eq_getElem?,List.getElem?_eq_getElem hl];rfl
 unfold pathE;rw [if_neg (by intro e;rw [e] at hd;cases hd),if_pos (.inl (by rw [hd];intro e;exact h2 (Option.some.inj e)))]
theorem pathE_rest {s:ByteArray} (h:0<s.size) (h2:s[0]=47):pathE s=if hasB s 0=true then 1 else if 4096<s.size then 13 else 0:=by
 have hd:s.data.toList.head? = some s[0]:=by
  have hl:0<s.data.toList.length:=by simpa using h
  rw [List.head?_eq_getElem?,List.getElem?_eq_getElem hl];rfl
 unfold pathE hasB;rw [if_neg (by intro e;rw [e] at hd;cases hd),hd,h2];simp
theorem contains_any (s:ByteArray) (w:World) :
  Calls Tryz.prog 156 #[.string s,.string (ByteArray.mk #[0])] w fun e w'=>e=.returned (.bool (hasB s 0))∧w=w':=by
 refine (Tryz.strings_Contains_one s 0 w).mono ?_;rintro e w' ⟨rfl,rfl⟩;refine ⟨ret_bool ?_,rfl⟩;unfold hasB;rw [decide_eq_decide];exact idx_pos 0 _
theorem npath_any (s:ByteArray) (w:World) (hs:s.size≤100000) :
  Calls Tryz.prog 84 #[.string s] w fun e w'=>e=.returned (.int .i64 (pathE s))∧w=w':=by
 rcases Nat.eq_zero_or_pos s.size with h0 | hpos
 ·have HE:=Lib.hid (pathE_nil h0);have hn:s.toList=[]:=by rw [ba_list];exact List.eq_nil_of_length_eq_zero (by rw [Array.length_toList];exact h0)
  clear h0;go_enter Tryz.func84,Tryz.ntmps84;go_wp2_with fail;go_ret;exact⟨by rw [HE.out];rfl,rfl⟩
 ·have hn:¬ s.toList=[]:=by
   rw [ba_list];intro e;have:s.data.toList.length=s.size:=Array.length_toList;rw [e] at this;simp at this;omega
  have hn2:s.toList.isEmpty=false:=by simpa using hn
  by_cases h47:s[0]=47
  ·have hr:=Lib.hid (pathE_rest hpos h47);have hc1:((s[0].toNat:Int) == 47)=true:=by rw [h47];rfl
   have hc2:((s[0].toNat:Int) != 47)=false:=by rw [bne,hc1];rfl
   clear h47;have hc:=Lib.hid (contains_any s);generalize hasB s 0=b at hr hc
   cases b
   ·by_cases hlen:4096<s.size
    ·have hE:=Lib.hid (show pathE s=13 by rw [hr.out];simp [hlen]);go_enter Tryz.func84,Tryz.ntmps84;go_wp2_with (go_at_call 156;refine (hc.out _).mono ?_;rintro e w1 ⟨rfl,rfl⟩);go_ret;exact⟨by rw [hE.out];rfl,rfl⟩
    ·have hE:=Lib.hid (show pathE s=0 by rw [hr.out];simp [hlen]);go_enter Tryz.func84,Tryz.ntmps84;go_wp2_with (go_at_call 156;refine (hc.out _).mono ?_;rintro e w1 ⟨rfl,rfl⟩);go_ret;exact⟨by rw [hE.out];rfl,rfl⟩
   ·have hE:=Lib.hid (show pathE s=1 by rw [hr.out];rfl);go_enter Tryz.func84,Tryz.ntmps84;go_wp2_with (go_at_call 156;refine (hc.out _).mono ?_;rintro e w1 ⟨rfl,rfl⟩);go_ret;exact⟨by rw [hE.out];rfl,rfl⟩
  ·have hE:=Lib.hid (pathE_head hpos h47);have hc1:((s[0].toNat:Int) == 47)=false:=by
    simp only [beq_eq_false_iff_ne,ne_eq];intro h;exact h47 (by rw [u8_eq];show s[0].toNat=47;omega)
   have hc2:((s[0].toNat:Int) != 47)=true:=by rw [bne,hc1];rfl
   clear h47;go_enter Tryz.func84,Tryz.ntmps84;go_wp2_with fail;go_ret;exact⟨by rw [hE.out];rfl,rfl⟩
end
section
open Go.RowKit
theorem contains47_any (s:ByteArray) (w:World) :
  Calls Tryz.prog 156 #[.string s,.string (ByteArray.mk #[47])] w fun e w'=>e=.returned (.bool (hasB s 47))∧w=w':=by
 refine (Tryz.strings_Contains_one s 47 w).mono ?_;rintro e w' ⟨rfl,rfl⟩;refine ⟨ret_bool ?_,rfl⟩;unfold hasB;rw [decide_eq_decide];exact idx_pos 47 _
theorem ncheck_any (s:ByteArray) (w:World) (hs:s.size≤9223372036854775807) :
  Calls Tryz.prog 80 #[.string s] w fun e w'=>e=.returned (.int .i64 (checkE s))∧w=w':=by
 have hl:s.toList=s.data.toList:=ba_list s;have HC:=Lib.hid (show checkE s=if s.toList=[]∨s.toList=[46]∨s.toList=[46,46]∨hasB s 47=true∨hasB s 0=true then 1 else if 255<s.size then 13 else 0 by
  unfold checkE hasB;rw [hl];simp only [decide_eq_true_eq])
 have H47:=Lib.hid (contains47_any s);have H0:=Lib.hid (contains_any s);generalize hasB s 47=b47 at HC H47;generalize hasB s 0=b0 at HC H0;clear hl;by_cases h1:s.toList=[]
 ·have HE:=Lib.hid (HC.out.trans (if_pos (.inl h1)));go_enter Tryz.func80,Tryz.ntmps80;go_wp2_with fail;go_ret;exact⟨by rw [HE.out];rfl,rfl⟩
 ·have h1':s.toList.isEmpty=false:=by simpa using h1
  by_cases h2:s.toList=[46]
  ·have HE:=Lib.hid (HC.out.trans (if_pos (.inr (.inl h2))));go_enter Tryz.func80,Tryz.ntmps80;go_wp2_with fail;go_ret;exact⟨by rw [HE.out];rfl,rfl⟩
  ·have h2':(s.toList == [46])=false:=by simpa using h2
   by_cases h3:s.toList=[46,46]
   ·have HE:=Lib.hid (HC.out.trans (if_pos (.inr (.inr (.inl h3)))));go_enter Tryz.func80,Tryz.ntmps80;go_wp2_with fail;go_ret;exact⟨by rw [HE.out];rfl,rfl⟩
   ·have h3':(s.toList == [46,46])=false:=by simpa using h3
    cases b47
    ·cases b0
     ·have HE:=Lib.hid (HC.out.trans (if_neg (by simp [h1,h2,h3])));by_cases h4:255<s.size
      ·have HE2:=Lib.hid (HE.out.trans (if_pos h4));have h4':(255:Int)<(s.size:Int):=by omega
       go_enter Tryz.func80,Tryz.ntmps80;go_wp2_with (first | (go_at_call 156;((with_reducible refine (H47.out _).mono ?_);rintro e w1 ⟨rfl,rfl⟩)) | (go_at_call 156;((with_reducible refine (H0.out _).mono ?_);rintro e w1 ⟨rfl,rfl⟩)));go_ret;exact⟨by rw [HE2.out];rfl,rfl⟩
      ·have HE2:=Lib.hid (HE.out.trans (if_neg h4));have h4':¬ (255:Int)<(s.size:Int):=by omega
       go_enter Tryz.func80,Tryz.ntmps80;go_wp2_with (first | (go_at_call 156;((with_reducible refine (H47.out _).mono ?_);rintro e w1 ⟨rfl,rfl⟩)) | (go_at_call 156;((with_reducible refine (H0.out _).mono ?_);rintro e w1 ⟨rfl,rfl⟩)));go_ret;exact⟨by rw [HE2.out];rfl,rfl⟩
     ·have HE:=Lib.hid (HC.out.trans (if_pos (by simp)));go_enter Tryz.func80,Tryz.ntmps80;go_wp2_with (first | (go_at_call 156;((with_reducible refine (H47.out _).mono ?_);rintro e w1 ⟨rfl,rfl⟩)) | (go_at_call 156;((with_reducible refine (H0.out _).mono ?_);rintro e w1 ⟨rfl,rfl⟩)));go_ret;exact⟨by rw [HE.out];rfl,rfl⟩
    ·have HE:=Lib.hid (HC.out.trans (if_pos (by simp)));go_enter Tryz.func80,Tryz.ntmps80;go_wp2_with (go_at_call 156;((with_reducible refine (H47.out _).mono ?_);rintro e w1 ⟨rfl,rfl⟩));go_ret;exact⟨by rw [HE.out];rfl,rfl⟩
end
end Go.Proofs.YtihdbncoijhihaaGreatDoor
