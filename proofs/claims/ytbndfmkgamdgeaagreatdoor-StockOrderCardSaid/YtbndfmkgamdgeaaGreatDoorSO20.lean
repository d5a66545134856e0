import Derived.Test.YtbndfmkgamdgeaaGreatDoorSO1
import Derived.Test.YtbndfmkgamdgeaaGreatDoorSO2
import Derived.Test.YtbndfmkgamdgeaaGreatDoorSO3
import Derived.Test.YtbndfmkgamdgeaaGreatDoorSO4
import Derived.Test.YtbndfmkgamdgeaaGreatDoorSO5
import Derived.Test.YtbndfmkgamdgeaaGreatDoorSO6
import Derived.Test.YtbndfmkgamdgeaaGreatDoorSO7
import Derived.Test.YtbndfmkgamdgeaaGreatDoorSO8
import Derived.Test.YtbndfmkgamdgeaaGreatDoorSO9
import Derived.Test.YtbndfmkgamdgeaaGreatDoorSO10
import Derived.Test.YtbndfmkgamdgeaaGreatDoorSO13
import Derived.Test.YtbndfmkgamdgeaaGreatDoorSO16
set_option linter.unusedVariables false
set_option linter.unusedSimpArgs false
set_option maxRecDepth 100000
set_option maxHeartbeats 16000000
namespace Go.Proofs.YtbndfmkgamdgeaaGreatDoor
section
open Go.RowKit
section
variable {w w':World} {pw:Nat} {R:Rp} {S:Fs}
theorem tk_root (b n:Int) (h:limB b n=true):tkV 0 0 b n 1 1=.tuple #[.agg #[.int .i64 1,.int .i64 1,.int .i64 b,.int .i64 n],.int .i64 0]:=by
 obtain⟨h1,h2,h3,h4⟩:=lim_of h;have e:tkE 0 0 b n 1 1=0:=by
  unfold tkE tkBad fineB;simp;omega
 have:=tkV_ok 0 0 b n 1 1 e;simpa using this
theorem WdAt.setRoot (h:WdAt w pw R S) {g cap:Nat} (hdv:R.dv=.slice (some ⟨g,0,none⟩) S.ds.length cap) {k:Nat} (hk:k<S.ds.length) (v:Dv) (hv:S.ds[k]=v) (r:Int) :
  WdAt (w.setCell ⟨g,k*6,none⟩ (.int .i64 r)) pw R {S with ds:=S.ds.set k {v with root:=r}}∧Mod (fun x=>x=g) w (w.setCell ⟨g,k*6,none⟩ (.int .i64 r)):=by
 have hm:Mod (fun x=>x=g) w (w.setCell ⟨g,k*6,none⟩ (.int .i64 r)):=(Mod.refl (fun x=>x=g) w).setCell (a:=⟨g,k*6,none⟩) (.inl rfl) _;refine ⟨?_,hm⟩;obtain⟨g',cap',hdv',-,-,-,-,-,cur,hcur⟩:=h.devF (by omega);have e:=hdv.symm.trans hdv';injection e with e;injection e with e;injection e with e;subst e;have hne:∀ (x:Nat) (vs:Array Value) (T:TypeId),Blk w x vs T→T≠217→x≠g:=by
  rintro x vs T hx hT rfl;unfold Blk at hx hcur;rw [hcur] at hx;injection hx with hx;injection hx with _ hx;exact hT hx.symm
 have h3:R.pm≠g:=by
  rintro e;have hm:=h.tab.map;unfold MapB at hm;rw [e] at hm;unfold Blk at hcur;rw [hcur] at hm
  cases hm
 refine ⟨h.blk.mod hm (hne _ _ _ h.blk (by decide)),⟨h.tab.blk.mod hm (hne _ _ _ h.tab.blk (by decide)),(hm.block _ h.tab.map.lt h3).trans h.tab.map,h.tab.once,h.tab.low⟩,?_,h.ns,fun x hx=>(h.ents x hx).turn (fun bk cr hc=>hm.block bk (Array.getElem?_eq_some_iff.1 hc).1 (hne bk cr _ hc (by decide))) hm.size⟩;show World.ownsRow _ 0 217 6 R.dv (S.ds.set k _).length ((S.ds.set k _).flatMap Dv.cs);rw [List.length_set];have h0:=h.devs;rw [hdv] at h0 ⊢;have hkl:k*6+5<(S.ds.flatMap Dv.cs).length:=by rw [flat_len'];omega
 have p1:=own_cell1 h0 (k*6) (by omega) (.int .i64 r);have hs:=setAll_flat Dv.cs_len ({v with root:=r}:Dv) S.ds k hk;rw [←hs];have hsame:∀ (l:List Value) (j:Nat) (u:Value),l[j]? = some u→l.set j u=l:=by
  intro l j u hu;obtain⟨hlt,rfl⟩:=List.getElem?_eq_some_iff.1 hu;rw [List.set_getElem_self]
 have c:∀ j (hj:j<6),(S.ds.flatMap Dv.cs)[k*6+j]? = (Dv.cs v)[j]?:=fun j hj=>by rw [flat_get Dv.cs_len S.ds k j hk hj,hv]
 have c':∀ j (u:Value),1≤j→j<6→(Dv.cs v)[j]? = some u→((S.ds.flatMap Dv.cs).set (k*6) (.int .i64 r)).set (k*6+j) u=(S.ds.flatMap Dv.cs).set (k*6) (.int .i64 r):=fun j u h1 h6 hu=>
  hsame _ _ _ (by rw [List.getElem?_set_ne (by omega),c j h6,hu])
 show World.ownsRow _ 0 217 6 _ _ ((((((((S.ds.flatMap Dv.cs).set (k*6) (.int .i64 r)).set (k*6+1) (.int .i64 v.over)).set (k*6+2) (.int .i64 v.b)).set (k*6+3) (.int .i64 v.n)).set (k*6+4) (.int .i64 v.mb)).set (k*6+5) (.int .i64 v.mn)));rw [c' 1 _ (by omega) (by omega) rfl,c' 2 _ (by omega) (by omega) rfl,c' 3 _ (by omega) (by omega) rfl,c' 4 _ (by omega) (by omega) rfl,c' 5 _ (by omega) (by omega) rfl];exact p1
def rootN (S:Fs):An:={an0 with dev:=(S.ds.length:Int)+1,kind:=1,mode:=493,links:=1}
theorem addRoot_eq (S:Fs) (hn:Nums S) (over b n:Int) :
  {(((S.addDev over b n).add (rootN S)).set {rootN S with no:=S.last+1,up:=S.last+1}) with ds:=(S.addDev over b n).ds.set S.ds.length {(⟨0,over,1,1,b,n⟩:Dv) with root:=S.last+1}}=S.addRoot over b n:=by
 unfold Fs.addRoot Fs.set Fs.add Fs.addDev;simp only [List.map_append,List.map_cons,List.map_nil];congr 1
 ·congr 1
  ·conv=>rhs;rw [←List.map_id S.ns]
   apply List.map_congr_left;intro x hx;have:=hn.low x hx;simp only [id_eq];rw [if_neg];simp;omega
  ·simp [rootN]
 ·rw [List.set_append_right _ _ (Nat.le_refl _)];simp
theorem nums_addDev {S:Fs} (hn:Nums S) (over b n:Int):Nums (S.addDev over b n):=⟨hn.rise,hn.low⟩
theorem wadd_no (over b n:Int) (hlim:limB b n=false) (w:World) (pw:Nat) :
  Calls Tryz.prog 151 #[.pointer (some ⟨pw,0,none⟩),.int .i64 over,.int .i64 b,.int .i64 n] w fun e w'=>e=.returned (.int .i64 3)∧Below w.heap.size w w':=by
 have HNw:=Lib.hid (fun w=>new_no b n hlim w);clear hlim;go_enter Tryz.func151,Tryz.ntmps151;go_wp2_with fail;refine (HNw.out _).mono ?_;rintro e w1 ⟨rfl,hb1⟩;go_wp2_with fail;go_ret;exact⟨rfl,balloc hb1 _⟩
theorem wadd_any (h:WdAt w pw R S) (hn:Nums S) (hl0:0≤S.last) (hl1:S.last≤1000000) (hd:S.ds.length≤7) (over b n:Int) (hlim:limB b n=true) :
  Calls Tryz.prog 151 #[.pointer (some ⟨pw,0,none⟩),.int .i64 over,.int .i64 b,.int .i64 n] w fun e w'=>e=.returned (.int .i64 0)∧∃ R',WdAt w' pw R' (S.addRoot over b n)∧Stp (R.F pw) (R'.F pw) w w':=by
 have HNw:=Lib.hid (fun w=>new_yes b n hlim w);have hT:=fun w=>take_any 0 0 b n 1 1 w;rw [tk_root b n hlim] at hT;have HT:=Lib.hid hT;have HW0:=Lib.hid h;obtain⟨pc,-,pz⟩:=h.blk.facts;clear hlim hT h;go_enter Tryz.func151,Tryz.ntmps151;go_wp2_with fail;refine (HNw.out _).mono ?_;rintro e w1 ⟨rfl,hb1⟩;go_wp2_with fail;refine (HT.out _).mono ?_;rintro e w2 ⟨rfl,hb2⟩;have hB9:=new_keep hb2;have hbA:=bnext (balloc hb1 (.cells #[.int .i64 0,.int .i64 0,.int .i64 b,.int .i64 n] 215)) hb2;have hle1:=hb1.size;have HB9:=Lib.hid hB9;obtain⟨qc,qf,qz⟩:=hB9.facts;have HX:=Lib.hid (below_set4 (v0:=.int .i64 1) (v1:=.int .i64 1) (v2:=.int .i64 b) (v3:=.int .i64 n) hbA hle1);have hB5:=hB9.set4 (v0:=.int .i64 1) (v1:=.int .i64 1) (v2:=.int .i64 b) (v3:=.int .i64 n);clear hB9 hb1 hb2;go_wp2_with fail;generalize (((w2.setCell ⟨w1.heap.size,0,none⟩ (.int .i64 1)).setCell ⟨w1.heap.size,1,none⟩ (.int .i64 1)).setCell ⟨w1.heap.size,2,none⟩ (.int .i64 b)).setCell ⟨w1.heap.size,3,none⟩ (.int .i64 n)=X at HX hB5 ⊢;clear qc qf qz;obtain⟨qc,qf,qz⟩:=hB5.facts;have hWX:=HW0.out.keep HX.out;have hb3:Below X.heap.size X (X.alloc (.cells #[.int .i64 0,.int .i64 over,.int .i64 1,.int .i64 1,.int .i64 b,.int .i64 n] 217)).drew:=((Below.refl _ X).alloc (Nat.le_refl _) _).drew;obtain⟨g,cap,Y,hrun,hWY,hSY,hbY,hMY⟩:=(hWX.keep hb3).app (by omega) ⟨X.heap.size,0,none⟩ over b n (World.news_of_block ((Blk.new X #[.int .i64 0,.int .i64 over,.int .i64 1,.int .i64 1,.int .i64 b,.int .i64 n] 217).drew));obtain⟨xc,-,xz⟩:=hWX.blk.facts;obtain⟨yc,yf,yz⟩:=hbY.facts;have mixed:Tryz.prog.follows .mixedOrders=true:=by kernel_rfl
 have HWY:=Lib.hid hWY;have HSY:=Lib.hid ((Stp.of_below (HX.out.trans (hb3.mono HX.out.size))).trans hSY);obtain⟨da,dc,hdv,-,-,-⟩:=own_form HW0.out.devs;rw [hdv] at xc yc hrun;clear pc hWY hSY hWX hMY hbY hdv;have HRun:=Lib.hid hrun;clear hrun;go_upto_region 5 with (fail)
 go_cut [] (fun wx=>wx=Y.setCell ⟨pw,1,none⟩ (.slice (some ⟨g,0,none⟩) (S.ds.length+1) cap))
 case first=>
  have hrun:=HRun.out
  go_region_law_o (refine step_app_run rfl rfl rfl rfl hrun ?_)
  all_goals
   go_wp2_with fail;go_meet;rfl
 case rest=>
  subst hcut;generalize Y.setCell ⟨pw,1,none⟩ (.slice (some ⟨g,0,none⟩) (S.ds.length+1) cap)=Z at HWY HSY ⊢;clear xc xz yc yf yz qc qf qz hb3 hbA HB9 hB5 HRun;have hWZ:=HWY.out;obtain⟨zc,zf,zz⟩:=hWZ.blk.facts;obtain⟨m,hm⟩:∃ m,S.ds.length=m:=⟨_,rfl⟩;have Hm:=Lib.hid hm;obtain⟨S2,hS2⟩:∃ S2,(S.addDev over b n).add (rootN S)=S2:=⟨_,rfl⟩;obtain⟨a5,ha5⟩:∃ a5:An,{rootN S with no:=S.last+1}=a5:=⟨_,rfl⟩;obtain⟨a6,ha6⟩:∃ a6:An,{rootN S with no:=S.last+1,up:=S.last+1}=a6:=⟨_,rfl⟩;have HAdd:=Lib.hid (show Calls Tryz.prog 191 #[.pointer (some ⟨R.pt,0,none⟩),.agg #[.int .i64 0,.int .i64 ((m:Int)+1),.int .i64 1,.int .i64 493,.int .i64 0,.int .i64 0,.int .i64 0,.int .i64 0,.int .i64 1,.int .i64 0,.string ByteArray.empty,.slice none 0 0]] Z fun e w'=>e=.returned (.int .i64 (S.last+1))∧∃ R':Rp,WdAt w' pw R' S2∧Stp (Rp.F {R with dv:=.slice (some ⟨g,0,none⟩) (S.ds.length+1) cap} pw) (R'.F pw) Z w'∧R'.pt=R.pt∧R'.dv=.slice (some ⟨g,0,none⟩) (S.ds.length+1) cap by
   rw [←hm,←hS2];exact hWZ.addN (rootN S) (EntsAt.nil Z) hl0 hl1)
  have HGet:=Lib.hid (show S2.get (S.last+1)=some a5 by rw [←hS2,←ha5,an_add (nums_addDev hn over b n)];exact if_pos rfl);have HV5:=Lib.hid (fun (ea:Option Addr) (el ec:Nat)=>show a5.v ea el ec=.agg #[.int .i64 (S.last+1),.int .i64 ((m:Int)+1),.int .i64 1,.int .i64 493,.int .i64 0,.int .i64 0,.int .i64 0,.int .i64 0,.int .i64 1,.int .i64 0,.string ByteArray.empty,.slice ea el ec] by rw [←ha5,←hm];rfl);have HV6:=Lib.hid (fun (ea:Option Addr) (el ec:Nat)=>show a6.v ea el ec=.agg #[.int .i64 (S.last+1),.int .i64 ((m:Int)+1),.int .i64 1,.int .i64 493,.int .i64 0,.int .i64 0,.int .i64 0,.int .i64 0,.int .i64 1,.int .i64 (S.last+1),.string ByteArray.empty,.slice ea el ec] by rw [←ha6,←hm];rfl);have HA6:=Lib.hid (show a6.no=S.last+1∧a6.ents=a5.ents by rw [←ha6,←ha5];exact ⟨rfl,rfl⟩);have HEq:=Lib.hid (show {(S2.set a6) with ds:=(S2.set a6).ds.set m {(⟨0,over,1,1,b,n⟩:Dv) with root:=S.last+1}}=S.addRoot over b n by rw [←hS2,←ha6,←hm];exact addRoot_eq S hn over b n);have HDk:=Lib.hid (show (S2.set a6).ds[m]? = some ⟨0,over,1,1,b,n⟩∧(S2.set a6).ds.length=m+1 by
   rw [←hS2,←hm];exact⟨by show (S.ds ++ [_])[S.ds.length]? = _;rw [List.getElem?_append_right (Nat.le_refl _)];simp,by show (S.ds ++ [_]).length=_;simp⟩)
  rw [hm] at zc;clear hWZ hm hS2 ha5 ha6;go_wp2_with fail;refine HAdd.out.mono ?_;rintro e w5 ⟨rfl,R5,hR1,hR2,hR3,hR4⟩;have HR5:=Lib.hid (And.intro hR1 (And.intro ((HSY.out).trans hR2) hR4));obtain⟨rc,-,rz⟩:=hR1.blk.facts;rw [hR4,Hm.out] at rc;obtain⟨ea,el,ec,hE,hG⟩:=wget_yes hR1 HGet.out;rw [HV5.out] at hG;have HG:=Lib.hid hG;have HE:=Lib.hid hE;clear hR1 hR2 hR3 hR4 hG hE zc zf zz;go_wp2_with fail;refine HG.out.mono ?_;rintro e w6 ⟨rfl,hb6⟩;have rc0:w6.cell? ⟨pw,0,none⟩=_:=(hb6.cell (p:=⟨pw,0,none⟩) rz).trans (rc 0);have hz6:=Nat.lt_of_lt_of_le rz hb6.size;have HB6:=Lib.hid (balloc hb6 (.cells #[.int .i64 (S.last+1),.int .i64 ((m:Int)+1),.int .i64 1,.int .i64 493,.int .i64 0,.int .i64 0,.int .i64 0,.int .i64 0,.int .i64 1,.int .i64 (S.last+1),.string ByteArray.empty,.slice ea el ec] 163));have B7:=Blk.new w6 #[.int .i64 (S.last+1),.int .i64 ((m:Int)+1),.int .i64 1,.int .i64 493,.int .i64 0,.int .i64 0,.int .i64 0,.int .i64 0,.int .i64 1,.int .i64 (S.last+1),.string ByteArray.empty,.slice ea el ec] 163;clear rc hb6 rz;go_wp2_with fail;have rc7:(w6.alloc (.cells #[.int .i64 (S.last+1),.int .i64 ((m:Int)+1),.int .i64 1,.int .i64 493,.int .i64 0,.int .i64 0,.int .i64 0,.int .i64 0,.int .i64 1,.int .i64 (S.last+1),.string ByteArray.empty,.slice ea el ec] 163)).cell? ⟨pw,0,none⟩=_:=(((Below.refl w6.heap.size w6).alloc (Nat.le_refl _) (.cells #[.int .i64 (S.last+1),.int .i64 ((m:Int)+1),.int .i64 1,.int .i64 493,.int .i64 0,.int .i64 0,.int .i64 0,.int .i64 0,.int .i64 1,.int .i64 (S.last+1),.string ByteArray.empty,.slice ea el ec] 163)).cell (p:=⟨pw,0,none⟩) hz6).trans rc0;generalize w6.alloc (.cells #[.int .i64 (S.last+1),.int .i64 ((m:Int)+1),.int .i64 1,.int .i64 493,.int .i64 0,.int .i64 0,.int .i64 0,.int .i64 0,.int .i64 1,.int .i64 (S.last+1),.string ByteArray.empty,.slice ea el ec] 163)=W7 at rc7 HB6 B7 ⊢;generalize w6.heap.size=B6 at B7 ⊢;obtain⟨bc,-,bz⟩:=B7.facts;have hd7:Below W7.heap.size W7 W7.drew:=(Below.refl _ W7).drew;have hb57:=HB6.out.trans (hd7.mono HB6.out.size);have hSet:=(HR5.out.1.keep hb57).setN a6 (ea:=ea) (el:=el) (ec:=ec) (by rw [HA6.out.2];exact HE.out.keep hb57) (b:=a5) (by rw [HA6.out.1];exact HGet.out);rw [HV6.out] at hSet;have HSet:=Lib.hid hSet;clear hSet rc0 hz6;refine wp_region_lex 5 mixed (by kernel_rfl) then_panic ?_;simp only [List.take_succ_cons,List.take_zero,List.drop_succ_cons,List.drop_zero]
  repeat still_step
  refine wpStill_nil ?_;go_wp2_with fail;refine HSet.out.mono ?_;rintro e w8 ⟨rfl,R8,hR1,hR2,hR3,hR4⟩;have hdv8:R8.dv=.slice (some ⟨g,0,none⟩) (m+1) cap:=by rw [hR4,HR5.out.2.2,Hm.out]
  have hl8:(S2.set a6).ds.length=m+1:=HDk.out.2;have hk8:m<(S2.set a6).ds.length:=by omega
  have hv8:(S2.set a6).ds[m]=⟨0,over,1,1,b,n⟩:=by
   have:=HDk.out.1;rw [List.getElem?_eq_getElem hk8] at this;simpa using this
  obtain⟨g8,cap8,hdv9,hle8,h638,-,hc8,hf8,-⟩:=hR1.devF (by omega);have e8:=hdv9.symm.trans hdv8;injection e8 with e8 e9 e10;injection e8 with e8;injection e8 with e8;subst e8 e10;have c8:=(hc8 m hk8).c0;rw [hv8] at c8;obtain⟨rc,-,rz⟩:=hR1.blk.facts;rw [hdv8] at rc;obtain⟨hWF,hMF⟩:=hR1.setRoot (by rw [hl8];exact hdv8) hk8 _ hv8 (S.last+1);have HF:=Lib.hid (And.intro hWF (show Stp (R.F pw) (R8.F pw) w _ from ((HR5.out.2.1.trans (Stp.of_below hb57)).trans hR2).trans (Stp.of_mod (hMF.mono (fun x hx=>.inr (.inr (.inr (by rw [hdv8,hx];rfl))))))));rw [hl8] at hle8;clear hR1 hR2 hR3 hR4 hdv8 hl8 hk8 hv8 hc8 hWF hMF hdv9 e9 bc bz hd7 hb57 rc7;have hb3:(m:Int)<(m:Int)+1:=by omega
  have hb4:(0:Int)≤(m:Int):=by omega
  go_wp2_with fail;go_ret;refine ⟨rfl,R8,?_,HF.out.2⟩;rw [←HEq.out];exact HF.out.1
end
end
section
open Go.RowKit
def bitB (m:Int) (n:Nat):Bool:=bits .and .i64 (m / 2 ^ n) 1 == 1
def fromK (cu cg uid gid:Int):Nat:=if cu=uid then 6 else if cg=gid then 3 else 0
def bitsOk (mode want:Int) (f k:Nat):Bool:=(List.range k).all fun i=>!bitB want i || bitB mode (f+i)
def refMay (cu cg uid gid mode want:Int):Bool:=if bitsOk mode want (fromK cu cg uid gid) 3 then true else decide (cu=0)
end
section
open Go.RowKit
attribute [local go_sem] Oper.semAt_some
theorem cutL_miss {c:UInt8} {l:List UInt8} (h:Lib.indexByte l c=-1):cutL c l=(l,[],false):=by
 unfold cutL;rw [if_neg (indexByte_no l c h)]
theorem cutL_hit {c:UInt8} {l:List UInt8} {i:Nat} (h:Lib.indexByte l c=i):cutL c l=(l.take i,l.drop (i+1),true):=by
 obtain⟨h1,h2,h3⟩:=indexByte_yes l c i h;have hm:c∈l:=by rw [h2];simp
 unfold cutL;rw [if_pos hm];have hp:∀ x∈l.take i,decide (x≠c)=true:=fun x hx=>decide_eq_true (by rintro rfl;exact h3 hx);have e1:l.takeWhile (·≠c)=l.take i:=by
  conv=>lhs;rw [h2]
  rw [List.takeWhile_append_of_pos hp,List.takeWhile_cons_of_neg (by simp),List.append_nil]
 have e2:l.dropWhile (·≠c)=c :: l.drop (i+1):=by
  conv=>lhs;rw [h2]
  rw [List.dropWhile_append_of_pos hp,List.dropWhile_cons_of_neg (by simp)]
 rw [e1,e2];rfl
theorem scut_any (s:ByteArray) (c:UInt8) (w:World) (hs:s.size≤2000000) :
  Calls Tryz.prog 179 #[.string s,.string ⟨#[c]⟩] w fun e w'=>e=.returned (.tuple #[.string (str (cutL c s.data.toList).1),.string (str (cutL c s.data.toList).2.1),.bool (cutL c s.data.toList).2.2])∧Below w.heap.size w w':=by
 have HI:=Lib.hid (Tryz.stringslite_Index_one s c);have hl:s.data.toList.length=s.size:=Array.length_toList;have hge:=Lib.indexByte_ge s.data.toList c;have HC:RowKit.Hid (∀ w,Calls Tryz.prog 227 #[.string s,.string ⟨#[c]⟩] w fun e w'=>e=.returned (.tuple #[.string (str (cutL c s.data.toList).1),.string (str (cutL c s.data.toList).2.1),.bool (cutL c s.data.toList).2.2])∧Below w.heap.size w w'):=by
  intro w;by_cases hm:Lib.indexByte s.data.toList c=-1
  ·have HE:=Lib.hid (show str (cutL c s.data.toList).1=s∧str (cutL c s.data.toList).2.1=ByteArray.empty∧(cutL c s.data.toList).2.2=false by rw [cutL_miss hm];exact ⟨str_of s,rfl,rfl⟩);generalize cutL c s.data.toList=q at HE ⊢;rw [hm] at HI;clear hm hge hl;go_enter Tryz.func227,Tryz.ntmps227;go_wp2_with fail;refine (HI.out _).mono ?_;rintro e w1 ⟨rfl,rfl⟩;go_wp2_with fail
   go_ret3
   obtain⟨h1,h2,h3⟩:=HE.out;exact⟨by rw [h1,h2,h3];rfl,Below.refl _ _⟩
  ·obtain ⟨i,hi⟩:∃ i:Nat,Lib.indexByte s.data.toList c=i:=⟨(Lib.indexByte s.data.toList c).toNat,by omega⟩;have hil:=(indexByte_yes _ _ _ hi).1;have HE:=Lib.hid (show str (cutL c s.data.toList).1=s.extract 0 i∧str (cutL c s.data.toList).2.1=s.extract (i+1) s.size∧(cutL c s.data.toList).2.2=true by
    rw [cutL_hit hi];refine ⟨?_,?_,rfl⟩
    ·rw [←str_of (s.extract 0 i),ByteArray.data_extract,Array.toList_extract,List.extract_eq_take_drop];simp
    ·rw [←str_of (s.extract (i+1) s.size),ByteArray.data_extract,Array.toList_extract,List.extract_eq_take_drop];congr 1;refine (List.take_of_length_le ?_).symm;rw [List.length_drop];omega)
   generalize cutL c s.data.toList=q at HE ⊢;rw [hi] at HI;have c1:(0:Int)≤(i:Int):=by omega
   have c2:(i:Int)≤(s.size:Int):=by omega
   have c3:(i:Int)+1≤(s.size:Int):=by omega
   have hsz:(ByteArray.mk #[c]).size=1:=rfl;clear hm hge hi;go_enter Tryz.func227,Tryz.ntmps227;go_wp2_with fail;refine (HI.out _).mono ?_;rintro e w1 ⟨rfl,rfl⟩;go_wp2_with fail
   go_quiet (fail)
   go_wp2_with fail
   go_ret3
   obtain⟨h1,h2,h3⟩:=HE.out;exact⟨by rw [h1,h2,h3];rfl,below_drewN (Below.refl _ _) _⟩
 go_enter Tryz.func179,Tryz.ntmps179;go_wp2_with fail;refine (HC.out _).mono ?_;rintro e w1 ⟨rfl,hb1⟩;go_wp2_with fail
 go_ret3
 exact⟨rfl,hb1⟩
def rdC (r:Rd):Array Value:=#[.string (str r.path),.string (str r.day),.bool r.inn,.int .i64 r.paths,.int .i64 r.days]
theorem hd_get (t:List UInt8) (h:0<(str t).size):t.head? = some (str t)[0]:=by
 cases t with
 | nil=>exact absurd h (by decide)
 | cons c t=>rfl
theorem strim_any (s:List UInt8) (cs:ByteArray) (hc:cs.data.toList.all (fun b=>decide (b.toNat<128))=true) (hz:cs.size<4294967281) (w:World) (hs:s.length≤2000000) :
  Calls Tryz.prog 178 #[.string (str s),.string cs] w fun e w'=>e=.returned (.string (str (Lib.trimS s cs.data.toList)))∧Below w.heap.size w w':=by
 have h:=Tryz.strings_Trim_laid (str s) cs w (by rw [str_size];omega) hz (fun j b hb=>of_decide_eq_true (List.all_eq_true.1 hc b (List.mem_of_getElem? hb)));rw [str_list] at h;exact h
theorem iline_any (r:Rd) (B:Nat) (s:List UInt8) (w:World) (hB:Blk w B (rdC r) 229) (hs:s.length≤2000000) (hp:0≤r.paths∧r.paths≤4000000) (hd:0≤r.days∧r.days≤4000000) :
  Calls Tryz.prog 125 #[.pointer (some ⟨B,0,none⟩),.string (str s)] w fun e w'=>e=.returned (.bool (r.line s).2)∧Blk w' B (rdC (r.line s).1) 229∧Mod (fun k=>k=B) w w':=by
 have HT:=Lib.hid (fun w=>strim_any s (ByteArray.mk #[32,9,13]) (by decide) (by decide) w hs);have hq:r.line s=r.trimmed (Lib.trimS s [32,9,13]):=rfl;have hql:=trimS_len s [32,9,13];rw [show (ByteArray.mk #[32,9,13]).data.toList=[32,9,13] from rfl] at HT;rw [hq];generalize Lib.trimS s [32,9,13]=t at HT hql ⊢;have HB:=Lib.hid hB;clear hq hB;have HTr:=Lib.hid (show r.trimmed t=if t=[]∨t.head? = some 35 then (r,true) else if r.inn=false then (⟨r.path,r.day,decide (t=headI),r.paths,r.days⟩,decide (t=headI)) else if t.head? = some 91 then (r,false) else if (cutL 61 t).2.2=false then (r,true) else (r.put (Go.Lib.trimS (cutL 61 t).1 [32,9]) (Go.Lib.trimS (cutL 61 t).2.1 [32,9]),true) from rfl);generalize r.trimmed t=q at HTr ⊢;go_enter Tryz.func125,Tryz.ntmps125;go_wp2_with fail;refine (HT.out _).mono ?_;rintro e w1 ⟨rfl,hb1⟩;have HB1:=Lib.hid (HB.out.keep hb1);have HM1:=Lib.hid (Mod.of_below (S:=fun k=>k=B) hb1);have hb5:=HB1.out.facts;unfold rdC at hb5;obtain⟨bc,bf,bz⟩:=hb5;clear hb1;have htl:(str t).toList=t:=by rw [ba_list,str_list]
 have hsz:=str_size t;have HG:=Lib.hid (hd_get t);have HCu:=Lib.hid (fun w=>scut_any (str t) 61 w (by rw [str_size];omega));rw [str_list] at HCu;obtain⟨u,hu⟩:∃ u,str t=u:=⟨_,rfl⟩;rw [hu] at htl hsz HCu;simp only [hu] at HG ⊢;by_cases h0:t=[]
 ·have HQ:=Lib.hid (HTr.out.trans (if_pos (.inl h0)));have h1:u.toList=[]:=by rw [htl,h0]
  clear h0 htl;go_wp2_with fail;go_ret;exact⟨by rw [HQ.out];rfl,by rw [HQ.out];exact HB1.out,HM1.out⟩
 ·have h1:¬ u.toList=[]:=by rw [htl];exact h0
  have h1':u.toList.isEmpty=false:=by simpa using h1
  have hpos:0<u.size:=by
   rw [hsz];exact List.length_pos_iff.2 h0
  have hg:=HG.out hpos;obtain⟨c,hc⟩:∃ c,u[0]=c:=⟨_,rfl⟩;rw [hc] at hg;by_cases h35:c=35
  ·subst h35;have HQ:=Lib.hid (HTr.out.trans (if_pos (.inr hg)));have hcb:(((35:UInt8).toNat:Int) == 35)=true:=rfl;clear h0 htl;go_wp2_with fail;go_ret;exact⟨by rw [HQ.out];rfl,by rw [HQ.out];exact HB1.out,HM1.out⟩
  ·have H2:=Lib.hid (HTr.out.trans (if_neg (fun e=>e.elim h0 (fun e=>h35 (by rw [hg] at e;injection e)))));have hcb:((c.toNat:Int) == 35)=false:=by simpa using fun e:(c.toNat:Int)=35=>h35 (UInt8.toNat_inj.1 (by show c.toNat=35;omega))
   clear h35
   cases hin:r.inn with
   | false=>
    rw [hin] at bc;have H3:=Lib.hid (H2.out.trans (if_pos hin));have hbe:(u.toList == [91,84,114,97,115,104,32,73,110,102,111,93])=decide (t=headI):=by rw [htl];show (t == headI)=_;by_cases h:t=headI <;> simp [h]
    generalize decide (t=headI)=b at H3 hbe;clear h0 htl;go_wp2_with fail;go_ret;refine ⟨by rw [H3.out];rfl,?_,HM1.out.setCell (.inl rfl) _⟩;rw [H3.out];exact HB1.out.set 2 (.bool b)
   | true=>
    rw [hin] at bc;have H3:=Lib.hid (H2.out.trans (if_neg (by rw [hin];decide)));by_cases h91:c=91
    ·subst h91;have HQ:=Lib.hid (H3.out.trans (if_pos hg));have hcd:(((91:UInt8).toNat:Int) == 91)=true:=rfl;clear h0 htl;go_wp2_with fail;go_ret;exact⟨by rw [HQ.out];rfl,by rw [HQ.out];exact HB1.out,HM1.out⟩
    ·have H4:=Lib.hid (H3.out.trans (if_neg (fun e=>h91 (by rw [hg] at e;injection e))));have hcd:((c.toNat:Int) == 91)=false:=by simpa using fun e:(c.toNat:Int)=91=>h91 (UInt8.toNat_inj.1 (by show c.toNat=91;omega))
     have hcl:=cutL_len 61 t;generalize cutL 61 t=ct at HCu H4 hcl;obtain⟨ky,v,is⟩:=ct;dsimp only at HCu H4 hcl;clear h91 h0 htl;go_wp2_with fail;refine (HCu.out _).mono ?_;rintro e w2 ⟨rfl,hb2⟩;have HB2:=Lib.hid (HB1.out.keep hb2);have HM2:=Lib.hid (HM1.out.trans (Mod.of_below hb2));clear bc bf bz hb2
     cases is with
     | false=>
      have HQ:=Lib.hid (H4.out.trans (if_pos rfl));go_wp2_with fail;go_ret;exact⟨by rw [HQ.out];rfl,by rw [HQ.out];exact HB2.out,HM2.out⟩
     | true=>
      have H5:=Lib.hid (H4.out.trans (if_neg (by decide)));have HTv:=Lib.hid (fun w=>strim_any v (ByteArray.mk #[32,9]) (by decide) (by decide) w (by omega));have HTk:=Lib.hid (fun w=>strim_any ky (ByteArray.mk #[32,9]) (by decide) (by decide) w (by omega));rw [show (ByteArray.mk #[32,9]).data.toList=[32,9] from rfl] at HTv HTk;generalize Lib.trimS v [32,9]=v2 at HTv H5;generalize Lib.trimS ky [32,9]=k2 at HTk H5;go_wp2_with fail;refine (HTv.out _).mono ?_;rintro e w3 ⟨rfl,hb3⟩;have HB3:=Lib.hid (HB2.out.keep hb3);have HM3:=Lib.hid (HM2.out.trans (Mod.of_below hb3));clear hb3;go_wp2_with fail;refine (HTk.out _).mono ?_;rintro e w4 ⟨rfl,hb4⟩;have HB4:=Lib.hid (HB3.out.keep hb4);have HM4:=Lib.hid (HM3.out.trans (Mod.of_below hb4));have hb5:=HB4.out.facts;unfold rdC at hb5;obtain⟨bc,bf,bz⟩:=hb5;rw [hin] at bc;clear hb4;have hkl:(str k2).toList=k2:=by rw [ba_list,str_list]
      have HPut:=Lib.hid (show r.put k2 v2=if k2=pathK then ⟨if r.paths=0 then v2 else r.path,r.day,r.inn,r.paths+1,r.days⟩ else if k2=dayK then ⟨r.path,if r.days=0 then v2 else r.day,r.inn,r.paths,r.days+1⟩ else r from rfl);by_cases hk1:k2=pathK
      ·have HP:=Lib.hid (HPut.out.trans (if_pos hk1));have hke:((str k2).toList == [80,97,116,104])=true:=by rw [hkl,hk1];rfl
       have hpw:IntKind.i64.wrap (r.paths+1)=r.paths+1:=by rw [IntKind.wrap_i64];omega
       by_cases hz0:r.paths=0
       ·have hzb:(r.paths == 0)=true:=by simpa using hz0
        clear hk1 hkl;go_wp2_with fail;go_ret;refine ⟨by rw [H5.out];rfl,?_,(HM4.out.setCell (.inl rfl) _).setCell (.inl rfl) _⟩;rw [H5.out,HP.out,if_pos hz0,hz0];exact (HB4.out.set 0 (.string (str v2))).set 3 (.int .i64 1)
       ·have hzb:(r.paths == 0)=false:=by simpa using hz0
        clear hk1 hkl;go_wp2_with fail;go_ret;refine ⟨by rw [H5.out];rfl,?_,HM4.out.setCell (.inl rfl) _⟩;rw [H5.out,HP.out,if_neg hz0];exact HB4.out.set 3 (.int .i64 (r.paths+1))
      ·by_cases hk2:k2=dayK
       ·have HP:=Lib.hid (HPut.out.trans ((if_neg hk1).trans (if_pos hk2)));have hke:((str k2).toList == [80,97,116,104])=false:=by rw [hkl,hk2];rfl
        have hke2:((str k2).toList == [68,101,108,101,116,105,111,110,68,97,116,101])=true:=by rw [hkl,hk2];rfl
        have hpw:IntKind.i64.wrap (r.days+1)=r.days+1:=by rw [IntKind.wrap_i64];omega
        by_cases hz0:r.days=0
        ·have hzb:(r.days == 0)=true:=by simpa using hz0
         clear hk1 hkl hk2;go_wp2_with fail;go_ret;refine ⟨by rw [H5.out];rfl,?_,(HM4.out.setCell (.inl rfl) _).setCell (.inl rfl) _⟩;rw [H5.out,HP.out,if_pos hz0,hz0];exact (HB4.out.set 1 (.string (str v2))).set 4 (.int .i64 1)
        ·have hzb:(r.days == 0)=false:=by simpa using hz0
         clear hk1 hkl hk2;go_wp2_with fail;go_ret;refine ⟨by rw [H5.out];rfl,?_,HM4.out.setCell (.inl rfl) _⟩;rw [H5.out,HP.out,if_neg hz0];exact HB4.out.set 4 (.int .i64 (r.days+1))
       ·have HP:=Lib.hid (HPut.out.trans ((if_neg hk1).trans (if_neg hk2)));have hke:((str k2).toList == [80,97,116,104])=false:=by rw [hkl];exact beq_eq_false_iff_ne.2 hk1
        have hke2:((str k2).toList == [68,101,108,101,116,105,111,110,68,97,116,101])=false:=by rw [hkl];exact beq_eq_false_iff_ne.2 hk2
        clear hk1 hkl hk2;go_wp2_with fail;go_ret;exact⟨by rw [H5.out];rfl,by rw [H5.out,HP.out];exact HB4.out,HM4.out⟩
end
end Go.Proofs.YtbndfmkgamdgeaaGreatDoor
