import Derived.Test.YtbndfmkgamdgeaaGreatDoorSO1
import Derived.Test.YtbndfmkgamdgeaaGreatDoorSO2
import Derived.Test.YtbndfmkgamdgeaaGreatDoorSO5
import Derived.Test.YtbndfmkgamdgeaaGreatDoorSO6
import Derived.Test.YtbndfmkgamdgeaaGreatDoorSO8
import Derived.Test.YtbndfmkgamdgeaaGreatDoorSO10
import Derived.Test.YtbndfmkgamdgeaaGreatDoorSO13
import Derived.Test.YtbndfmkgamdgeaaGreatDoorSO18
import Derived.Test.YtbndfmkgamdgeaaGreatDoorSO19
import Derived.Test.YtbndfmkgamdgeaaGreatDoorSO21
import Derived.Test.YtbndfmkgamdgeaaGreatDoorSO25
import Derived.Test.YtbndfmkgamdgeaaGreatDoorSO28
import Derived.Test.YtbndfmkgamdgeaaGreatDoorSO29
import Derived.Test.YtbndfmkgamdgeaaGreatDoorSO30
import Derived.Test.YtbndfmkgamdgeaaGreatDoorSO32
set_option linter.unusedVariables false
set_option linter.unusedSimpArgs false
set_option maxRecDepth 100000
set_option maxHeartbeats 16000000
namespace Go.Proofs.YtbndfmkgamdgeaaGreatDoor
section
open Go.RowKit
section
variable {w w':World} {pf pw:Nat} {R:Rp} {pv:Value} {Y:Sy}
theorem SyAt.other (h:SyAt w pf pw R pv Y) {B:Nat} {vs:Array Value} {T:TypeId} (hb:Blk w B vs T) (hT:wdKind (.cells #[] T (0,0))=false) (h1:T≠100) (h2:T≠92) (h3:T≠161) (hm:Mod (fun k=>k=B) w w'):SyAt w' pf pw R pv Y:=by
 unfold Blk at hb;refine ⟨h.blk.mod hm (fun e=>?_),h.wd.mod hm (fun k o hk ho=>?_),own_mod h.plan hm (fun k hk he=>?_)⟩
 ·subst e;have hq:=h.blk;unfold Blk at hq;rw [hb] at hq;injection hq with hq;injection hq with hq e;exact h1 e
 ·subst hk;rw [hb] at ho;injection ho with ho;subst ho;exact⟨hT,fun cur e=>by injection e with e1 e2;exact h2 e2⟩
 ·subst hk;obtain⟨-,cur,hc⟩:=own_obj1 h.plan he;rw [hb] at hc;injection hc with hc;injection hc with hc e;exact h3 e
theorem Stp.newCell {F F':Nat→Prop} (h:Stp F F' w w') {B:Nat} (hB:w.heap.size≤B) (i:Nat) (v:Value):Stp F F' w (w'.setCell ⟨B,i,none⟩ v):=
 ⟨h.mod.setCell (a:=⟨B,i,none⟩) (.inr hB) v,h.new⟩
theorem mount_err {S:Fs} {m:Mt} (h:(S.path c00 m.path false).2≠0):mountF S m=S:=by unfold mountF;rw [if_pos h]
theorem mount_new {S:Fs} {m:Mt} (h:(S.path c00 m.path false).2=0) (h0:(S.path c00 m.path false).1.no=0) (he:(S.mkdir c00 0 (S.path c00 m.path false).1.dir (S.path c00 m.path false).1.name 493).2.2=0) :
  mountF S m=((S.mkdir c00 0 (S.path c00 m.path false).1.dir (S.path c00 m.path false).1.name 493).1.mount (S.mkdir c00 0 (S.path c00 m.path false).1.dir (S.path c00 m.path false).1.name 493).2.1 m.b m.n).1:=by
 unfold mountF;rw [if_neg (by simp [h]),if_pos h0];simp only;rw [if_neg (by simp [he])]
theorem mount_full {S:Fs} {m:Mt} (h:(S.path c00 m.path false).2=0) (h0:(S.path c00 m.path false).1.no=0) (he:(S.mkdir c00 0 (S.path c00 m.path false).1.dir (S.path c00 m.path false).1.name 493).2.2≠0) :
  mountF S m=(S.mkdir c00 0 (S.path c00 m.path false).1.dir (S.path c00 m.path false).1.name 493).1:=by
 unfold mountF;rw [if_neg (by simp [h]),if_pos h0];simp only;rw [if_pos he]
theorem mount_old {S:Fs} {m:Mt} (h:(S.path c00 m.path false).2=0) (h0:(S.path c00 m.path false).1.no≠0):mountF S m=(S.mount (S.path c00 m.path false).1.no m.b m.n).1:=by
 unfold mountF;rw [if_neg (by simp [h]),if_neg h0]
theorem smount_any (h:SyAt w pf pw R pv Y) {N:Nat} (hk:FsOk Y.fs N) (hN:N≤999990) (hc:Calm Y) (hcc:Y.count≤4000000) (m:Mt) (hp:m.path.size≤100000) :
  Calls Tryz.prog 48 #[.pointer (some ⟨pf,0,none⟩),.agg #[.string m.path,.int .i64 m.b,.int .i64 m.n]] w fun e w'=>e=.returned (.tuple #[])∧Became w w' pf pw R pv Y (mountF Y.fs m) 1:=by
 have HY:=Lib.hid h;have HK:=Lib.hid hk;have HC:=Lib.hid hc;have HF:=Lib.hid (fun w1 (hb1:Below w.heap.size w w1)=>sfind_any (h.keep hb1) hk (by omega) hc.dead c00 m.path hp false);have HSz:=Lib.hid (path_size hk c00 m.path (by omega) false);have mixed:Tryz.prog.follows .mixedOrders=true:=by kernel_rfl
 have HE1:=Lib.hid (mount_err (S:=Y.fs) (m:=m));have HE2:=Lib.hid (mount_new (S:=Y.fs) (m:=m));have HE3:=Lib.hid (mount_full (S:=Y.fs) (m:=m));have HE4:=Lib.hid (mount_old (S:=Y.fs) (m:=m));generalize mountF Y.fs m=Z at HE1 HE2 HE3 HE4 ⊢;generalize Y.fs.path c00 m.path false=x at HF HSz HE1 HE2 HE3 HE4;obtain⟨⟨xd,xn,xk,xs⟩,xe⟩:=x;unfold Fd.v at HF;have hM0:=Blk.new w #[.string m.path,.int .i64 m.b,.int .i64 m.n] 126;have hb0:=balloc (Below.refl w.heap.size w) (.cells #[.string m.path,.int .i64 m.b,.int .i64 m.n] 126);clear h hk hc;go_enter Tryz.func48,Tryz.ntmps48;go_wp2_with fail;refine (HF.out _ hb0).mono ?_;rintro e w1 ⟨rfl,hb1⟩;have hMX:=(hM0.keep hb1).old (.cells #[.int .i64 xd,.string xn,.int .i64 xk,.bool xs] 189);have hXX:=Blk.new w1 #[.int .i64 xd,.string xn,.int .i64 xk,.bool xs] 189;have hbX:=balloc (bnext hb0 hb1) (.cells #[.int .i64 xd,.string xn,.int .i64 xk,.bool xs] 189);have hlw:w.heap.size<w1.heap.size:=by have:=hb1.size;simp at this;omega
 clear hM0 hb0 hb1;go_upto_region 2 with fail;generalize w1.alloc (.cells #[.int .i64 xd,.string xn,.int .i64 xk,.bool xs] 189)=X at hMX hXX hbX ⊢;have HMX:=Lib.hid hMX;have HXX:=Lib.hid hXX;have HBX:=Lib.hid hbX;obtain⟨xc,xf,xz⟩:=hXX.facts;obtain⟨mc,mf,mz⟩:=hMX.facts;have hYX:=HY.out.keep hbX;have HYX:=Lib.hid hYX;obtain⟨pc,-,pz⟩:=hYX.blk.facts;clear hMX hXX hbX hYX;by_cases he:xe=0
 ·have heb:(xe == 0)=true:=by simpa using he
  subst he;by_cases hno:xk=0
  ·have hnb:(xk == 0)=true:=by simpa using hno
   have HM:=Lib.hid (smkdir_any HYX.out HK.out (by omega) ⟨HC.out.c0,by omega⟩ (by rw [HC.out.plan];exact Nat.zero_le _) c00 xd xn 493 (by have h9:xn.size≤1048576:=HSz.out;omega));rw [HC.out.op] at HM;have HE2a:=Lib.hid (HE2.out rfl hno);have HE3a:=Lib.hid (HE3.out rfl hno);dsimp only at HE2a HE3a HM;have HOk:=Lib.hid (mkdir_ok HK.out c00 0 xd xn 493);clear HE1 HE2 HE3 HE4 hno;generalize Y.fs.mkdir c00 0 xd xn 493=q at HM HE2a HE3a HOk;obtain⟨S1,n1,e1⟩:=q;dsimp only at HM HE2a HE3a HOk;go_wp2_with fail;refine HM.out.mono ?_;rintro e w3 ⟨rfl,R3,hY3,hS3⟩;have hM3:=HMX.out.sy HYX.out hS3 rfl (by decide);have hX3:=HXX.out.sy HYX.out hS3 rfl (by decide);have HX3:=Lib.hid hX3;have HM3:=Lib.hid hM3;have HY3:=Lib.hid hY3;have HS3:=Lib.hid ((Stp.of_below HBX.out).trans hS3);clear xc xf xz mc mf mz pc pz;obtain⟨xc,xf,xz⟩:=hX3.facts;clear hM3 hX3 hY3 hS3;go_upto_region 4 with fail;have hY4:=HY3.out.other (HX3.out) rfl (by decide) (by decide) (by decide) ((Mod.refl (fun k=>k=w1.heap.size) w3).setCell (a:=⟨w1.heap.size,2,none⟩) (.inl rfl) (.int .i64 n1));have hX4:=HX3.out.set 2 (.int .i64 n1);have hne:w1.heap.size≠w.heap.size:=by have:=HX3.out.lt;have:=HMX.out.lt;have:=hlw;omega
   have hM4:=HM3.out.setOther ⟨w1.heap.size,2,none⟩ (.int .i64 n1) hne;have hS4:Stp (R.Y pf pw) (R3.Y pf pw) w (w3.setCell ⟨w1.heap.size,2,none⟩ (.int .i64 n1)):=HS3.out.newCell (show w.heap.size≤w1.heap.size by have:=hlw;omega) _ _;generalize w3.setCell ⟨w1.heap.size,2,none⟩ (.int .i64 n1)=W4 at hY4 hX4 hM4 hS4 ⊢;have HY4:=Lib.hid hY4;have HS4:=Lib.hid hS4;clear xc xf xz;obtain⟨xc,xf,xz⟩:=hX4.facts;obtain⟨mc,mf,mz⟩:=hM4.facts;obtain⟨pc,-,pz⟩:=hY4.blk.facts;clear hY4 hX4 hM4 hS4;by_cases he1:e1=0
   ·have he1b:(e1 == 0)=true:=by simpa using he1
    have HE:=Lib.hid (HE2a.out he1);have HMt:=Lib.hid (wmount_any (HY4.out.wd.keep (Below.refl _ W4).drew) HOk.out (by omega) n1 m.b m.n);subst he1;go_wp2_with fail;refine wp_region_lex 10 mixed (by kernel_rfl) (show PanicOk _ from by repeat (first | exact pk_body | refine pk_then ?_ | refine pk_block ?_ | refine pk_scope ?_)) ?_;simp only [List.take_succ_cons,List.take_zero,List.drop_succ_cons,List.drop_zero]
    repeat still_step
    refine wpStill_nil ?_;go_wp2_with fail;refine HMt.out.mono ?_;rintro e w5 ⟨rfl,R5,hR5,hS5⟩;have HX:=Lib.hid (And.intro ((HY4.out.keep (Below.refl _ W4).drew).step hR5 hS5) ((HS4.out.trans (stpY (Stp.of_below (F:=R3.F pw) (Below.refl _ W4).drew))).trans (stpY hS5)));clear hR5 hS5;go_wp2_with fail
    go_end0
    rw [HE.out];exact⟨rfl,R5,_,HX.out.1,rfl,(HC.out.next S1).fs _,by show Y.count+1≤_;omega,HX.out.2⟩
   ·have he1b:(e1 == 0)=false:=by simpa using he1
    have HE:=Lib.hid (HE3a.out he1);clear he1;go_wp2_with fail
    go_end0
    rw [HE.out];exact⟨rfl,R3,_,HY4.out,rfl,HC.out.next S1,by show Y.count+1≤_;omega,HS4.out⟩
  ·have hnb:(xk == 0)=false:=by simpa using hno
   have HE:=Lib.hid (HE4.out rfl hno);have HMt:=Lib.hid (wmount_any (HYX.out.wd.keep (Below.refl _ X).drew) HK.out (by omega) xk m.b m.n);clear HE1 HE2 HE3 HE4 hno;go_wp2_with fail;refine wp_region_lex 10 mixed (by kernel_rfl) (show PanicOk _ from by repeat (first | exact pk_body | refine pk_then ?_ | refine pk_block ?_ | refine pk_scope ?_)) ?_;simp only [List.take_succ_cons,List.take_zero,List.drop_succ_cons,List.drop_zero]
   repeat still_step
   refine wpStill_nil ?_;go_wp2_with fail;refine HMt.out.mono ?_;rintro e w5 ⟨rfl,R5,hR5,hS5⟩;have HX:=Lib.hid (And.intro ((HYX.out.keep (Below.refl _ X).drew).step hR5 hS5) (((Stp.of_below (F:=R.Y pf pw) HBX.out).trans (Stp.of_below (F:=R.Y pf pw) (Below.refl _ X).drew)).trans (stpY hS5)));clear hR5 hS5;go_wp2_with fail
   go_end0
   rw [HE.out];exact⟨rfl,R5,_,HX.out.1,rfl,HC.out.fs _,by show Y.count≤_;omega,HX.out.2⟩
 ·have heb:(xe == 0)=false:=by simpa using he
  have HE:=Lib.hid (HE1.out he);clear he;go_wp2_with fail
  go_end0
  rw [HE.out];exact⟨rfl,(Became.same HY.out HC.out HBX.out).mono (by omega)⟩
end
end
section
open Go.RowKit
theorem boxes3 (w:World) (a b c:Array Value) (A B C:TypeId):Blk (((w.alloc (.cells a A)).alloc (.cells b B)).alloc (.cells c C)) w.heap.size a A∧Blk (((w.alloc (.cells a A)).alloc (.cells b B)).alloc (.cells c C)) (w.heap.size+1) b B∧Blk (((w.alloc (.cells a A)).alloc (.cells b B)).alloc (.cells c C)) (w.heap.size+1+1) c C∧Below w.heap.size w (((w.alloc (.cells a A)).alloc (.cells b B)).alloc (.cells c C)):=by
 refine ⟨((Blk.new w a A).old _).old _,?_,?_,balloc (balloc (balloc (Below.refl w.heap.size w) _) _) _⟩
 ·have:=(Blk.new (w.alloc (.cells a A)) b B).old (.cells c C)
  rwa [World.size_alloc] at this
 ·have:=Blk.new ((w.alloc (.cells a A)).alloc (.cells b B)) c C
  rwa [World.size_alloc,World.size_alloc] at this
section
variable {w w' w'':World} {pf pw:Nat} {R R':Rp} {pv:Value} {Y Z:Sy}
theorem Goes.set7 (h:Goes w w' pf pw R pv Z) {B:Nat} {vs:Array Value} (hB:Blk w' B vs 45) (hw:w.heap.size≤B) (v0 v1 v2 v3 v4 v5 v6:Value) :
  Goes w (((((((w'.setCell ⟨B,0,none⟩ v0).setCell ⟨B,1,none⟩ v1).setCell ⟨B,2,none⟩ v2).setCell ⟨B,3,none⟩ v3).setCell ⟨B,4,none⟩ v4).setCell ⟨B,5,none⟩ v5).setCell ⟨B,6,none⟩ v6) pf pw R pv Z:=by
 obtain⟨R',h1,h2⟩:=h;have hm:Mod (fun k=>k=B) w' (((((((w'.setCell ⟨B,0,none⟩ v0).setCell ⟨B,1,none⟩ v1).setCell ⟨B,2,none⟩ v2).setCell ⟨B,3,none⟩ v3).setCell ⟨B,4,none⟩ v4).setCell ⟨B,5,none⟩ v5).setCell ⟨B,6,none⟩ v6):=
  (((((((Mod.refl (fun k=>k=B) w').setCell (a:=⟨B,0,none⟩) (.inl rfl) v0).setCell (a:=⟨B,1,none⟩) (.inl rfl) v1).setCell (a:=⟨B,2,none⟩) (.inl rfl) v2).setCell (a:=⟨B,3,none⟩) (.inl rfl) v3).setCell (a:=⟨B,4,none⟩) (.inl rfl) v4).setCell (a:=⟨B,5,none⟩) (.inl rfl) v5).setCell (a:=⟨B,6,none⟩) (.inl rfl) v6
 exact⟨R',h1.other hB (by decide) (by decide) (by decide) (by decide) hm,((((((h2.newCell hw 0 v0).newCell hw 1 v1).newCell hw 2 v2).newCell hw 3 v3).newCell hw 4 v4).newCell hw 5 v5).newCell hw 6 v6⟩
theorem lready_results {tmps:Array Value} {W:World} {B:Nat} {x:Cn} {e:Int} (hb:Blk W B #[.string x.path,.int .i64 x.dir,.int .i64 x.info,.int .i64 x.files,.int .i64 x.out,.int .i64 x.way,.string x.top] 45)
  (h8:tmps.getD 6 undef=.pointer (some ⟨B,0,none⟩)) (h9:tmps.getD 7 undef=.int .i64 e):(results Tryz.f68 tmps).run Tryz.prog W=.ok (.tuple #[x.v,.int .i64 e]) W:=by
 have q0:=hb.cell 0;have q1:=hb.cell 1;have q2:=hb.cell 2;have q3:=hb.cell 3;have q4:=hb.cell 4;have q5:=hb.cell 5;have q6:=hb.cell 6;rw [Array.getD_eq_getD_getElem?] at h8 h9;simp [results,Tryz.results68,go_sem,Cn.v,h8,h9,q0,q1,q2,q3,q4,q5,q6]
theorem part_at (k:Nat) (hk:k<4):∃ s,partNs.drop k=s :: partNs.drop (k+1)∧s.size≤9223372036854775807∧∀ w,(Instr.index 219 (.agg #[.string (ByteArray.mk #[105,110,102,111]),.string (ByteArray.mk #[102,105,108,101,115]),.string (ByteArray.mk #[101,120,112,117,110,103,101,100]),.string (ByteArray.mk #[109,111,118,105,110,103])]) (.int .i64 k)).run Tryz.prog w=.ok (.string s) w:=by
 rcases (by omega:k=0∨k=1∨k=2∨k=3) with rfl | rfl | rfl | rfl
 ·exact ⟨_,rfl,by decide,fun w=>(part_idx _ _ _ _ w).1⟩
 ·exact ⟨_,rfl,by decide,fun w=>(part_idx _ _ _ _ w).2.1⟩
 ·exact ⟨_,rfl,by decide,fun w=>(part_idx _ _ _ _ w).2.2.1⟩
 ·exact ⟨_,rfl,by decide,fun w=>(part_idx _ _ _ _ w).2.2.2⟩
theorem lready_any (h:SyAt w pf pw R pv Y) {N:Nat} (hk:SyOk Y N) (hN:N≤99000) (u:Us) (p:Plc) (hn:p.name.size≤9223372036854775807) :
  Calls Tryz.prog 68 #[.pointer (some ⟨pf,0,none⟩),.agg #[.int .i64 u.u,.int .i64 u.g,.string u.data],.agg #[.int .i64 p.dir,.string p.name,.string p.top]] w fun e w'=>
   e=.returned (.tuple #[(Y.readyF u p).2.1.v,.int .i64 (Y.readyF u p).2.2])∧Goes w w' pf pw R pv (Y.readyF u p).1:=by
 obtain⟨hUX,hPX,hRX,hbX⟩:=boxes3 w #[.int .i64 u.u,.int .i64 u.g,.string u.data] #[.int .i64 p.dir,.string p.name,.string p.top] #[.string ⟨#[]⟩,.int .i64 0,.int .i64 0,.int .i64 0,.int .i64 0,.int .i64 0,.string ⟨#[]⟩] 33 150 45;have hD:=fun w1 (hb1:Below w.heap.size w w1)=>ldir_any (h.keep hb1) hk (by omega) u p.dir p.name hn;have HH:=Lib.hid (fun w1 (hb1:Below w.heap.size w w1)=>h.keep hb1);have HR:=Lib.hid (show Y.readyF u p=if (Y.dirF u p.dir p.name).2.2≠0 then ((Y.dirF u p.dir p.name).1,cn0,(Y.dirF u p.dir p.name).2.2) else if ((Y.dirF u p.dir p.name).1.dirsF u (Y.dirF u p.dir p.name).2.1 partNs).2≠0 then (((Y.dirF u p.dir p.name).1.dirsF u (Y.dirF u p.dir p.name).2.1 partNs).1,cn0,((Y.dirF u p.dir p.name).1.dirsF u (Y.dirF u p.dir p.name).2.1 partNs).2) else (((Y.dirF u p.dir p.name).1.dirsF u (Y.dirF u p.dir p.name).2.1 partNs).1,((Y.dirF u p.dir p.name).1.dirsF u (Y.dirF u p.dir p.name).2.1 partNs).1.fs.openF ((Y.dirF u p.dir p.name).1.dirsF u (Y.dirF u p.dir p.name).2.1 partNs).1.dead u p) from rfl);have HK1:=Lib.hid (hk.dirF u p.dir p.name);have HP3:=Lib.hid (part_at);generalize Y.readyF u p=rd at HR ⊢;generalize Y.dirF u p.dir p.name=r at HR HK1 hD;obtain⟨Y1,no,e1⟩:=r;dsimp only at HR HK1 hD;have HD:=Lib.hid hD;clear h hk hD;go_enter Tryz.func68,Tryz.ntmps68;go_upto_region 1 with fail;generalize ((w.alloc (.cells #[.int .i64 u.u,.int .i64 u.g,.string u.data] 33)).alloc (.cells #[.int .i64 p.dir,.string p.name,.string p.top] 150)).alloc (.cells #[.string ⟨#[]⟩,.int .i64 0,.int .i64 0,.int .i64 0,.int .i64 0,.int .i64 0,.string ⟨#[]⟩] 45)=W0 at hUX hPX hRX hbX ⊢;have HB0:=Lib.hid hbX;have HW0:=Lib.hid (And.intro hUX (And.intro hPX hRX));obtain⟨uc,uf,uz⟩:=hUX.facts;obtain⟨qc,qf,qz⟩:=hPX.facts;clear hUX hPX hRX hbX;go_wp2_with fail;refine (HD.out _ HB0.out).mono ?_;rintro e w1 ⟨rfl,R1,hY1,hS1⟩;have hy0:=HH.out _ HB0.out;have hU1:=HW0.out.1.sy hy0 hS1 (by decide) (by decide);have hP1:=HW0.out.2.1.sy hy0 hS1 (by decide) (by decide);have hR1:=HW0.out.2.2.sy hy0 hS1 (by decide) (by decide);have HG1:=Lib.hid (show Goes w w1 pf pw R pv Y1 from ⟨R1,hY1,(Stp.of_below HB0.out).trans hS1⟩);have HB1:=Lib.hid (And.intro hU1 (And.intro hP1 hR1));obtain⟨rc,rf,rz⟩:=hR1.facts;clear hy0 hY1 hS1 hU1 hP1 hR1 uc uf uz qc qf qz;by_cases h0:e1=0
 ·have h0b:(e1 != 0)=false:=by simpa using h0
  have HE:=Lib.hid (HR.out.trans (if_neg (by simpa using h0)));subst h0;clear rc rf rz;go_wp2_with fail
  go_loopw [29] (fun t29 wr=>∃ (k:Nat) (Z:Sy),k≤4∧t29=.int .i64 k∧Y1.dirsF u no partNs=Z.dirsF u no (partNs.drop k)∧SyOk Z (N+1+k)∧Goes w wr pf pw R pv Z∧Blk wr w.heap.size #[.int .i64 u.u,.int .i64 u.g,.string u.data] 33∧Blk wr (w.heap.size+1) #[.int .i64 p.dir,.string p.name,.string p.top] 150∧Blk wr (w.heap.size+1+1) #[.string ⟨#[]⟩,.int .i64 0,.int .i64 0,.int .i64 0,.int .i64 0,.int .i64 0,.string ⟨#[]⟩] 45) (fun t29 _=>4 - (intOf t29).toNat)
  case atStart=>exact ⟨0,Y1,by omega,rfl,rfl,HK1.out,HG1.out,HB1.out.1,HB1.out.2.1,HB1.out.2.2⟩
  case round=>
   obtain⟨k,Z,hk,rfl,hd,hok,hg,hu,hp,hr⟩:=hrel;obtain⟨Rk,hYk,hSk⟩:=hg;have HU:=Lib.hid (And.intro hYk (And.intro hSk (And.intro hu (And.intro hp hr))));by_cases hlt:k<4
   ·obtain ⟨s,hs1,hs2,hix⟩:=HP3.out k hlt;have HDk:=Lib.hid (ldir_any hYk hok (by omega) u no s hs2);have HOK2:=Lib.hid (hok.dirF u no s);have HDr:=Lib.hid (show Y1.dirsF u no partNs=if (Z.dirF u no s).2.2≠0 then ((Z.dirF u no s).1,(Z.dirF u no s).2.2) else (Z.dirF u no s).1.dirsF u no (partNs.drop (k+1)) by rw [hd,hs1];rfl);generalize Z.dirF u no s=r at HDk HOK2 HDr;obtain⟨Z2,n2,e2⟩:=r;dsimp only at HDk HOK2 HDr;obtain⟨uc,uf,uz⟩:=hu.facts;clear hYk hSk hu hp hr hd hok hs1;go_wp2_with fail;refine HDk.out.mono ?_;rintro e w2 ⟨rfl,R2,hY2,hS2⟩;obtain⟨hYk,hSk,hu,hp,hr⟩:=HU.out;have hu2:=hu.sy hYk hS2 (by decide) (by decide);have hp2:=hp.sy hYk hS2 (by decide) (by decide);have hr2:=hr.sy hYk hS2 (by decide) (by decide);have HG2:=Lib.hid (show Goes w w2 pf pw R pv Z2 from ⟨R2,hY2,hSk.trans hS2⟩);have HB2:=Lib.hid (And.intro hu2 (And.intro hp2 hr2));obtain⟨rc,rf,rz⟩:=hr2.facts;clear hYk hSk hu hp hr hu2 hp2 hr2 hY2 hS2 uc uf uz hix;by_cases h2:e2=0
    ·have h2b:(e2 != 0)=false:=by simpa using h2
     have HD2:=Lib.hid (HDr.out.trans (if_neg (by simpa using h2)));subst h2;clear rc rf rz;go_wp2_with fail;go_roundw
     case measure=>simp [intOf];omega
     case rel=>exact ⟨k+1,Z2,by omega,by go_num,HD2.out,HOK2.out,HG2.out,HB2.out.1,HB2.out.2.1,HB2.out.2.2⟩
    ·have h2b:(e2 != 0)=true:=by simpa using h2
     have HD2:=Lib.hid (HDr.out.trans (if_pos h2));have HE2:=Lib.hid (HE.out.trans (if_pos (by rw [HD2.out];exact h2)));clear h2;go_wp2_with (exact bodyPost_ret (lready_results (x:=cn0) (e:=e2) HB2.out.2.2.set7 rfl rfl) rfl ⟨by rw [HE2.out,HD2.out],by rw [HE2.out,HD2.out];exact HG2.out.set7 HB2.out.2.2 (by omega) _ _ _ _ _ _ _⟩)
   ·obtain rfl:k=4:=by omega
    have hd4:Y1.dirsF u no partNs=(Z,0):=hd;have HE3:=Lib.hid (show rd=(Z,Z.fs.openF Z.dead u p) by rw [HE.out,hd4];rfl);have hlen:Z.fs.ns.length≤100000:=by
     have h1:=hok.fine.pl.len;have h2:=hok.fine.ok.lN;omega
    have HOp:=Lib.hid (copen_any hYk hok.fine.ok (by omega) hok.fine.pl hlen u p);unfold Cn.v at HOp;generalize Z.fs.openF Z.dead u p=o at HOp HE3;obtain⟨x,e3⟩:=o;dsimp only at HOp;obtain⟨uc,uf,uz⟩:=hu.facts;obtain⟨qc,qf,qz⟩:=hp.facts;clear hYk hSk hu hp hr hd hok hd4 hlen;go_wp2_with fail;refine HOp.out.mono ?_;rintro e w2 ⟨rfl,hb2⟩;obtain⟨hYk,hSk,hu,hp,hr⟩:=HU.out;have hr2:=hr.keep hb2;have HG2:=Lib.hid (show Goes w w2 pf pw R pv Z from ⟨Rk,hYk.keep hb2,hSk.trans (Stp.of_below hb2)⟩);have HB2:=Lib.hid hr2;obtain⟨rc,rf,rz⟩:=hr2.facts;clear hYk hSk hu hp hr hr2 hb2 uc uf uz qc qf qz;go_wp2_with (exact bodyPost_ret (lready_results (x:=x) (e:=e3) HB2.out.set7 rfl rfl) rfl ⟨by rw [HE3.out],by rw [HE3.out];exact HG2.out.set7 HB2.out (by omega) _ _ _ _ _ _ _⟩)
 ·have h0b:(e1 != 0)=true:=by simpa using h0
  have HE:=Lib.hid (HR.out.trans (if_pos h0));clear h0;go_wp2_with (exact bodyPost_ret (lready_results (x:=cn0) (e:=e1) HB1.out.2.2.set7 rfl rfl) rfl ⟨by rw [HE.out],by rw [HE.out];exact HG1.out.set7 HB1.out.2.2 (by omega) _ _ _ _ _ _ _⟩)
end
end
end Go.Proofs.YtbndfmkgamdgeaaGreatDoor
