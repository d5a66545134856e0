import Derived.Test.YtbndfmkgamdgeaaGreatDoorSO1
import Derived.Test.YtbndfmkgamdgeaaGreatDoorSO2
import Derived.Test.YtbndfmkgamdgeaaGreatDoorSO5
import Derived.Test.YtbndfmkgamdgeaaGreatDoorSO6
import Derived.Test.YtbndfmkgamdgeaaGreatDoorSO8
import Derived.Test.YtbndfmkgamdgeaaGreatDoorSO9
import Derived.Test.YtbndfmkgamdgeaaGreatDoorSO10
import Derived.Test.YtbndfmkgamdgeaaGreatDoorSO11
import Derived.Test.YtbndfmkgamdgeaaGreatDoorSO13
import Derived.Test.YtbndfmkgamdgeaaGreatDoorSO14
import Derived.Test.YtbndfmkgamdgeaaGreatDoorSO17
import Derived.Test.YtbndfmkgamdgeaaGreatDoorSO19
import Derived.Test.YtbndfmkgamdgeaaGreatDoorSO23
import Derived.Test.YtbndfmkgamdgeaaGreatDoorSO24
set_option linter.unusedVariables false
set_option linter.unusedSimpArgs false
set_option maxRecDepth 100000
set_option maxHeartbeats 16000000
namespace Go.Proofs.YtbndfmkgamdgeaaGreatDoor
section
open Go.RowKit
def fltC (x:Int×Int):List Value:=[.int .i64 x.1,.int .i64 x.2]
theorem fltC_len (x:Int×Int):(fltC x).length=2:=rfl
def fltR (cs:List Value) (x:Int×Int):Prop:=cs=fltC x
structure SyAt (w:World) (pf pw:Nat) (R:Rp) (pv:Value) (Y:Sy):Prop where
 blk:Blk w pf #[.pointer (some ⟨pw,0,none⟩),.int .i64 Y.now,.int .i64 Y.count,pv,.bool Y.dead] 100
 wd:WdAt w pw R Y.fs
 plan:w.ownsRow 0 161 2 pv Y.plan.length (Y.plan.flatMap fltC)
def Rp.Y (R:Rp) (pf pw:Nat) (k:Nat):Prop:=k=pf∨R.F pw k
section
variable {w w':World} {pf pw:Nat} {R:Rp} {pv:Value} {Y:Sy}
theorem SyAt.keep (h:SyAt w pf pw R pv Y) (hb:Below w.heap.size w w'):SyAt w' pf pw R pv Y:=
 ⟨h.blk.keep hb,h.wd.keep hb,own_below h.plan hb (Nat.le_refl _)⟩
theorem SyAt.apart (h:SyAt w pf pw R pv Y) {k:Nat} (hk:R.F pw k):k≠pf:=by
 rintro rfl;obtain⟨o,ho,hd⟩:=h.wd.kind hk;have hb:=h.blk;unfold Blk at hb;rw [hb] at ho;injection ho with ho;subst ho
 cases hd
theorem SyAt.plan_apart (h:SyAt w pf pw R pv Y) {k:Nat} (hk:R.Y pf pw k):pv.ownBlock≠some k:=by
 intro he;obtain⟨-,cur,hc⟩:=own_obj1 h.plan he;rcases hk with rfl | hk
 ·have hb:=h.blk;unfold Blk at hb;rw [hb] at hc
  cases hc
 ·obtain ⟨o,ho,hd⟩:=h.wd.kind hk;rw [hc] at ho;injection ho with ho;subst ho
  cases hd
theorem SyAt.step (h:SyAt w pf pw R pv Y) {R':Rp} {S:Fs} (hw:WdAt w' pw R' S) (hs:Stp (R.F pw) (R'.F pw) w w'):SyAt w' pf pw R' pv {Y with fs:=S}:=
 ⟨h.blk.mod hs.mod (fun hk=>h.apart hk rfl),hw,own_mod h.plan hs.mod (fun k hk=>h.plan_apart (.inr hk))⟩
theorem SyAt.turnF (h:SyAt w pf pw R pv Y) (hm:Mod (fun k=>k=pf) w w') {Z:Sy} (hz:Z.fs=Y.fs) (hp:Z.plan=Y.plan) (hb:Blk w' pf #[.pointer (some ⟨pw,0,none⟩),.int .i64 Z.now,.int .i64 Z.count,pv,.bool Z.dead] 100):SyAt w' pf pw R pv Z:=
 ⟨hb,by rw [hz];exact h.wd.mod hm (fun k o hk ho=>by
   subst hk;have hb:=h.blk;unfold Blk at hb;rw [hb] at ho;injection ho with ho;subst ho;exact⟨rfl,fun cur e=>by cases e⟩),
  by rw [hp];exact own_mod h.plan hm (fun k hk=>h.plan_apart (.inl hk))⟩
theorem stpY {R R':Rp} {pf pw:Nat} {w w':World} (h:Stp (R.F pw) (R'.F pw) w w'):Stp (R.Y pf pw) (R'.Y pf pw) w w':=
 ⟨h.mod.mono (fun k hk=>.inr hk),fun k hk=>hk.elim (fun e=>.inl (.inl e)) (fun hk=>(h.new k hk).imp .inr id)⟩
theorem stpF {R:Rp} {pf pw:Nat} {w w':World} (h:Mod (fun k=>k=pf) w w'):Stp (R.Y pf pw) (R.Y pf pw) w w':=Stp.of_mod (h.mono (fun k hk=>.inl hk))
theorem snone_any (h:SyAt w pf pw R pv Y) :
  Calls Tryz.prog 64 #[.pointer (some ⟨pf,0,none⟩)] w fun e w'=>e=.returned (.bool false)∧w=w':=by
 obtain⟨pc,-,-⟩:=h.blk.facts;clear h;go_enter Tryz.func64,Tryz.ntmps64;go_wp2_with fail;go_ret;exact⟨rfl,rfl⟩
theorem sread_any (h:SyAt w pf pw R pv Y) :
  Calls Tryz.prog 72 #[.pointer (some ⟨pf,0,none⟩)] w fun e w'=>e=.returned (.int .i64 (if Y.dead then 20 else 0))∧w=w':=by
 have HN:=Lib.hid (snone_any h);obtain⟨pc,-,-⟩:=h.blk.facts;clear h
 cases hd:Y.dead with
 | true=>
  rw [hd] at pc;clear hd;go_enter Tryz.func72,Tryz.ntmps72;go_wp2_with (refine HN.out.mono ?_;rintro e w1 ⟨rfl,rfl⟩);go_ret;exact⟨rfl,rfl⟩
 | false=>
  rw [hd] at pc;clear hd;go_enter Tryz.func72,Tryz.ntmps72;go_wp2_with (refine HN.out.mono ?_;rintro e w1 ⟨rfl,rfl⟩);go_ret;exact⟨rfl,rfl⟩
theorem change_dead (h:Y.dead=true):Y.change=(Y,20):=by unfold Sy.change;rw [if_pos h]
theorem change_none (h:Y.dead=false) (hf:∀ x∈Y.plan,x.1≠Y.count+1):Y.change=({Y with count:=Y.count+1},0):=by
 unfold Sy.change;rw [if_neg (by simp [h])];rw [List.find?_eq_none.2 (by simpa using hf)]
theorem change_at (h:Y.dead=false) {i:Nat} (hi:i<Y.plan.length) (hb:∀ j (hj:j<Y.plan.length),j<i→Y.plan[j].1≠Y.count+1) (he:Y.plan[i].1=Y.count+1) :
  Y.change=({Y with count:=Y.count+1,dead:=Y.plan[i].2 == 20},Y.plan[i].2):=by
 unfold Sy.change;rw [if_neg (by simp [h])];have:Y.plan.find? (fun x=>x.1 == Y.count+1)=some Y.plan[i]:=by
  rw [List.find?_eq_some_iff_getElem];exact⟨by simpa using he,i,hi,rfl,fun j hj=>by simpa using hb j (by omega) hj⟩
 rw [this]
theorem change_any (h:SyAt w pf pw R pv Y) (hc:0≤Y.count∧Y.count≤4611686018427387904) (hl:Y.plan.length≤1000000) :
  Calls Tryz.prog 34 #[.pointer (some ⟨pf,0,none⟩)] w fun e w'=>e=.returned (.int .i64 Y.change.2)∧SyAt w' pf pw R pv Y.change.1∧Mod (fun k=>k=pf) w w':=by
 have HR:=Lib.hid (sread_any h);have HY:=Lib.hid h;obtain⟨hc0,hc1⟩:=hc;obtain⟨pc,pf',pz⟩:=h.blk.facts
 cases hd:Y.dead with
 | true=>
  have HE:=Lib.hid (change_dead hd);rw [hd] at HR;clear h hd;go_enter Tryz.func34,Tryz.ntmps34;go_wp2_with (refine HR.out.mono ?_;rintro e w1 ⟨rfl,rfl⟩);go_ret;rw [HE.out];exact⟨rfl,HY.out,Mod.refl _ _⟩
 | false=>
  rw [hd] at HR pc;have HD:=Lib.hid hd;obtain⟨pa,pcap,rfl,hle,h63,hpf⟩:=own_form h.plan;have hSl:=own_slice (R:=fltR) (by omega) fltC_len (fun _=>rfl) h.plan;have HSl:=Lib.hid hSl;have HPf:=Lib.hid hpf;clear h hd hSl hpf;go_enter Tryz.func34,Tryz.ntmps34;have hB1:=HY.out.blk;rw [HD.out] at hB1;have HB1:=Lib.hid (hB1.set 2 (.int .i64 (Y.count+1)));clear hB1;go_wp2_with (refine HR.out.mono ?_;rintro e w1 ⟨rfl,rfl⟩)
  go_loopw [23] (fun t23 wr=>∃ k:Nat,k≤Y.plan.length∧t23=.int .i64 k∧Blk wr pf #[.pointer (some ⟨pw,0,none⟩),.int .i64 Y.now,.int .i64 (Y.count+1),.slice pa Y.plan.length pcap,.bool false] 100∧Mod (fun x=>x=pf) w wr∧(∀ j (hj:j<Y.plan.length),j<k→Y.plan[j].1≠Y.count+1)) (fun t23 _=>Y.plan.length - (intOf t23).toNat)
  case atStart=>exact ⟨0,Nat.zero_le _,rfl,HB1.out,(Mod.refl (fun x=>x=pf) w).setCell (a:=⟨pf,2,none⟩) (.inl rfl) _,fun j _ h=>absurd h (Nat.not_lt_zero _)⟩
  case round=>
   obtain⟨k,hk,rfl,hb,hm,hbef⟩:=hrel;have HBw:=Lib.hid hb;have HMw:=Lib.hid hm;have HBe:=Lib.hid hbef;obtain⟨bc,bf,bz⟩:=hb.facts;have hpl:=own_mod HY.out.plan hm (fun k hk=>HY.out.plan_apart (.inl hk));clear hb hbef;by_cases hlt:k<Y.plan.length
   ·obtain ⟨-,-,-,h0 | ⟨b,off,he,hbl,hel⟩⟩:=own_slice (R:=fltR) (by omega) fltC_len (fun _=>rfl) hpl
    ·omega
    ·subst he;obtain⟨cs,e1,e2,e3⟩:=hel k hlt;unfold fltR at e2;subst e2;have c0:=e3 0 (by rw [fltC_len];omega);have c1:=e3 1 (by rw [fltC_len];omega);obtain⟨fa,fw,hfe⟩:∃ fa fw,Y.plan[k]=(fa,fw):=⟨_,_,rfl⟩;have HFe:=Lib.hid hfe;have c0':wr.cell? ⟨b,off+k*2,none⟩=some (.int .i64 fa):=by rw [hfe] at c0;exact c0
     have c1':wr.cell? ⟨b,off+k*2+1,none⟩=some (.int .i64 fw):=by rw [hfe] at c1;exact c1
     have mixed:Tryz.prog.follows .mixedOrders=true:=by kernel_rfl
     clear hel e1 e3 c0 c1 hpl hm hfe;have hBX:=HBw.out.old (.cells #[.int .i64 fa,.int .i64 fw] 161);have hMX:=HMw.out.alloc (.cells #[.int .i64 fa,.int .i64 fw] 161);have hXX:=Blk.new wr #[.int .i64 fa,.int .i64 fw] 161;go_upto_region 8 with fail;generalize wr.alloc (.cells #[.int .i64 fa,.int .i64 fw] 161)=X at hBX hMX hXX ⊢;have HBX:=Lib.hid hBX;have HMX:=Lib.hid hMX;obtain⟨xc,xf,xz⟩:=hXX.facts;clear bc bf bz c0' c1';obtain⟨bc,bf,bz⟩:=hBX.facts;clear hBX hMX hXX;refine wp_region_lex 6 mixed (by kernel_rfl) (show PanicOk _ from by repeat (first | exact pk_body | refine pk_then ?_ | refine pk_block ?_ | refine pk_scope ?_)) ?_;simp only [List.take_succ_cons,List.take_zero,List.drop_succ_cons,List.drop_zero]
     repeat still_step
     refine wpStill_nil ?_;by_cases he:fa=Y.count+1
     ·have HE:=Lib.hid (change_at HD.out hlt HBe.out (by rw [HFe.out];exact he));rw [HFe.out] at HE;have heb:(fa == Y.count+1)=true:=by simpa using he
      clear he;by_cases h20:fw=20
      ·have h20':(fw == 20)=true:=by simpa using h20
       have HV:=Lib.hid (show (fw == 20)=true from h20');clear h20;go_wp2_with fail;go_ret;rw [HE.out];exact⟨rfl,HY.out.turnF (HMX.out.drew.setCell (a:=⟨pf,4,none⟩) (.inl rfl) _) rfl rfl (by dsimp only;rw [HV.out];exact HBX.out.drew.set 4 _),HMX.out.drew.setCell (a:=⟨pf,4,none⟩) (.inl rfl) _⟩
      ·have h20':(fw == 20)=false:=by simpa using h20
       have HV:=Lib.hid (show (fw == 20)=false from h20');clear h20;go_wp2_with fail;go_ret;rw [HE.out];exact⟨rfl,HY.out.turnF (HMX.out.drew.setCell (a:=⟨pf,4,none⟩) (.inl rfl) _) rfl rfl (by dsimp only;rw [HV.out];exact HBX.out.drew.set 4 _),HMX.out.drew.setCell (a:=⟨pf,4,none⟩) (.inl rfl) _⟩
     ·have heb:(fa == Y.count+1)=false:=by simpa using he
      have HN:=Lib.hid he;clear he;go_wp2_with fail;go_roundw
      case rel=>exact ⟨k+1,by omega,by go_num,HBX.out.drew,HMX.out.drew,fun j hj hlt2=>by
       by_cases hjk:j=k
       ·subst hjk;rw [HFe.out];exact HN.out
       ·exact HBe.out j hj (by omega)⟩
      case measure=>simp [intOf];omega
   ·obtain rfl:k=Y.plan.length:=by omega
    have HE:=Lib.hid (change_none HD.out (fun x hx=>by obtain ⟨j,hj,rfl⟩:=List.mem_iff_getElem.1 hx;exact HBe.out j hj hj));clear hm hpl;go_wp2_with fail;go_ret;rw [HE.out];exact⟨rfl,HY.out.turnF HMw.out rfl rfl (by rw [HD.out];exact HBw.out),HMw.out⟩
end
end
section
open Go.RowKit
section
variable {w w':World} {pw:Nat} {R:Rp} {S:Fs}
theorem ownE_yes {S:Fs} {c:Cr} {no:Int} {d:An} (h:S.ownE c no=0) (hg:S.get no=some d):ownsB c d=true:=by
 unfold Fs.ownE at h;rw [hg] at h;simp only at h
 cases ho:ownsB c d with
 | true=>rfl
 | false=>rw [ho] at h;simp at h
theorem chmod_no {S:Fs} {c:Cr} {now no m:Int} (h:S.ownE c no≠0):S.chmod c now no m=(S,S.ownE c no):=by
 unfold Fs.chmod Fs.ownE at *
 cases hg:S.get no with
 | none=>rfl
 | some d=>
  simp only [hg] at h ⊢
  cases ho:ownsB c d with
  | true=>rw [ho] at h;simp at h
  | false=>rfl
theorem chown_no {S:Fs} {c:Cr} {now no u g:Int} (h:S.ownE c no≠0):S.chown c now no u g=(S,S.ownE c no):=by
 unfold Fs.chown Fs.ownE at *
 cases hg:S.get no with
 | none=>rfl
 | some d=>
  simp only [hg] at h ⊢
  cases ho:ownsB c d with
  | true=>rw [ho] at h;simp at h
  | false=>rfl
theorem utime_no {S:Fs} {c:Cr} {now no t:Int} (h:S.ownE c no≠0):S.utime c now no t=(S,S.ownE c no):=by
 unfold Fs.utime Fs.ownE at *
 cases hg:S.get no with
 | none=>rfl
 | some d=>
  simp only [hg] at h ⊢
  cases ho:ownsB c d with
  | true=>rw [ho] at h;simp at h
  | false=>rfl
theorem mode_any (h:WdAt w pw R S) {N:Nat} (hk:FsOk S N) (c:Cr) (now no mode:Int) :
  Calls Tryz.prog 99 #[.pointer (some ⟨pw,0,none⟩),.agg #[.int .i64 c.u,.int .i64 c.g],.int .i64 now,.int .i64 no,.int .i64 mode] w fun e w'=>
   e=.returned (.int .i64 (S.chmod c now no mode).2)∧∃ R',WdAt w' pw R' (S.chmod c now no mode).1∧Stp (R.F pw) (R'.F pw) w w':=by
 have HO:=Lib.hid (fun w1 (hb1:Below w.heap.size w w1)=>own_any (h.keep hb1) hk c no);have HW:=Lib.hid h;have mixed:Tryz.prog.follows .mixedOrders=true:=by kernel_rfl
 obtain⟨pc,-,pz⟩:=h.blk.facts;clear h hk;go_enter Tryz.func99,Tryz.ntmps99;go_wp2_with fail;refine (HO.out _ (balloc (Below.refl _ _) _)).mono ?_;clear HO;rintro e w1 ⟨⟨h0,rfl⟩|⟨h0,d,ea,el,ec,hg,rfl,he⟩,hb1⟩
 ·have hbX:=bnext (balloc (Below.refl w.heap.size w) _) hb1;have HB:=Lib.hid hbX;have HC:=Lib.hid (chmod_no (now:=now) (m:=mode) h0);have hz:(S.ownE c no == 0)=false:=by simpa using h0
  generalize S.ownE c no=pe at HC hz ⊢;unfold An.v an0;clear h0 hb1 hbX pc;go_wp2_with fail;go_ret;rw [HC.out];exact⟨rfl,R,HW.out.keep (balloc HB.out _),Stp.of_below (balloc HB.out _)⟩
 ·have hbX:=balloc hb1 (.cells #[.int .i64 d.no,.int .i64 d.dev,.int .i64 d.kind,.int .i64 d.mode,.int .i64 d.uid,.int .i64 d.gid,.int .i64 d.mtime,.int .i64 d.ctime,.int .i64 d.links,.int .i64 d.up,.string d.data,.slice ea el ec] 163);have hCX:=((Blk.new w #[.int .i64 c.u,.int .i64 c.g] 54).keep hb1).old (.cells #[.int .i64 d.no,.int .i64 d.dev,.int .i64 d.kind,.int .i64 d.mode,.int .i64 d.uid,.int .i64 d.gid,.int .i64 d.mtime,.int .i64 d.ctime,.int .i64 d.links,.int .i64 d.up,.string d.data,.slice ea el ec] 163);have hDX:=Blk.new w1 #[.int .i64 d.no,.int .i64 d.dev,.int .i64 d.kind,.int .i64 d.mode,.int .i64 d.uid,.int .i64 d.gid,.int .i64 d.mtime,.int .i64 d.ctime,.int .i64 d.links,.int .i64 d.up,.string d.data,.slice ea el ec] 163;have hsz:=hb1.size;have HOw:=Lib.hid (ownE_yes h0 hg);have HSet:=Lib.hid (fun w1 (hb1:Below (w.alloc (.cells #[.int .i64 c.u,.int .i64 c.g] 54)).heap.size (w.alloc (.cells #[.int .i64 c.u,.int .i64 c.g] 54)) w1)=>(HW.out.keep (bnext (balloc (Below.refl _ _) _) hb1)).setN {d with mode:=mode,ctime:=now} (he.keep hb1) (b:=d) (by rw [show ({d with mode:=mode,ctime:=now}:An).no=d.no from rfl,an_no hg];exact hg));have HG:=Lib.hid hg;unfold An.v at HSet;unfold An.v;clear h0 hb1 he hg;go_upto_region 2 with fail;generalize w1.alloc (.cells #[.int .i64 d.no,.int .i64 d.dev,.int .i64 d.kind,.int .i64 d.mode,.int .i64 d.uid,.int .i64 d.gid,.int .i64 d.mtime,.int .i64 d.ctime,.int .i64 d.links,.int .i64 d.up,.string d.data,.slice ea el ec] 163)=X at hbX hCX hDX ⊢;obtain⟨dc,df,dz⟩:=hDX.facts;obtain⟨cc,-,-⟩:=hCX.facts;have HCX:=Lib.hid hCX;have HDX:=Lib.hid hDX;have HBX:=Lib.hid hbX;have HPC:=Lib.hid pc;have HPZ:=Lib.hid pz;clear hCX hDX hbX pc pz;by_cases h1:mode<0
  ·skip
   have HE:=Lib.hid (show S.chmod c now no mode=(S,1) by unfold Fs.chmod;rw [HG.out];simp only;rw [if_neg (by rw [HOw.out];decide),if_pos (.inl h1)]);go_wp2_with fail;go_ret;rw [HE.out];exact⟨rfl,R,HW.out.keep (bnext (balloc (Below.refl _ _) _) HBX.out),Stp.of_below (bnext (balloc (Below.refl _ _) _) HBX.out)⟩
  by_cases h2:1023<mode
  ·skip
   have HE:=Lib.hid (show S.chmod c now no mode=(S,1) by unfold Fs.chmod;rw [HG.out];simp only;rw [if_neg (by rw [HOw.out];decide),if_pos (.inr (.inl h2))]);go_wp2_with fail;go_ret;rw [HE.out];exact⟨rfl,R,HW.out.keep (bnext (balloc (Below.refl _ _) _) HBX.out),Stp.of_below (bnext (balloc (Below.refl _ _) _) HBX.out)⟩
  by_cases h3:d.kind=3
  ·have h3':(d.kind == 3)=true:=by simpa using h3
   have HE:=Lib.hid (show S.chmod c now no mode=(S,1) by unfold Fs.chmod;rw [HG.out];simp only;rw [if_neg (by rw [HOw.out];decide),if_pos (.inr (.inr h3))]);clear h3;go_wp2_with fail;go_ret;rw [HE.out];exact⟨rfl,R,HW.out.keep (bnext (balloc (Below.refl _ _) _) HBX.out),Stp.of_below (bnext (balloc (Below.refl _ _) _) HBX.out)⟩
  have h3':(d.kind == 3)=false:=by simpa using h3
  have HE:=Lib.hid (show S.chmod c now no mode=(S.set {d with mode:=mode,ctime:=now},0) by unfold Fs.chmod;rw [HG.out];simp only;rw [if_neg (by rw [HOw.out];decide),if_neg (by omega)]);go_wp2_with fail;have hDY:=((HDX.out.set 3 (.int .i64 mode)).set 7 (.int .i64 now));have hbY:Below (w.alloc (.cells #[.int .i64 c.u,.int .i64 c.g] 54)).heap.size (w.alloc (.cells #[.int .i64 c.u,.int .i64 c.g] 54)) ((X.setCell ⟨w1.heap.size,3,none⟩ (.int .i64 mode)).setCell ⟨w1.heap.size,7,none⟩ (.int .i64 now)):=((HBX.out.setCell hsz _).setCell hsz _);generalize ((X.setCell ⟨w1.heap.size,3,none⟩ (.int .i64 mode)).setCell ⟨w1.heap.size,7,none⟩ (.int .i64 now))=Y at hDY hbY ⊢;obtain⟨q0,q1,q2,q3,q4,q5,q6,q7,q8,q9,q10,q11⟩:=Blk.cells12 (x0:=.int .i64 d.no) hDY;have pc0:Y.cell? ⟨pw,0,none⟩=some (.pointer (some ⟨R.pt,0,none⟩)):=((bnext (balloc (Below.refl w.heap.size w) (.cells #[.int .i64 c.u,.int .i64 c.g] 54)) hbY).cell (p:=⟨pw,0,none⟩) HPZ.out).trans (HPC.out 0);have HS:=Lib.hid (HSet.out _ hbY.drew);have HY:=Lib.hid hbY;clear hDY hbY dc df dz
  try clear cc
  refine wp_region_lex 5 mixed (by kernel_rfl) then_panic ?_;simp only [List.take_succ_cons,List.take_zero,List.drop_succ_cons,List.drop_zero]
  repeat still_step
  refine wpStill_nil ?_;go_wp2_with fail;refine HS.out.mono ?_;rintro e w5 ⟨rfl,R',hR1,hR2,-,-⟩;have HR:=Lib.hid (And.intro hR1 hR2);clear hR1 hR2;go_wp2_with fail;go_ret;rw [HE.out];exact⟨rfl,R',HR.out.1,(Stp.of_below (bnext (balloc (Below.refl _ _) _) HY.out.drew)).trans HR.out.2⟩
theorem owner_any (h:WdAt w pw R S) {N:Nat} (hk:FsOk S N) (c:Cr) (now no u g:Int) :
  Calls Tryz.prog 98 #[.pointer (some ⟨pw,0,none⟩),.agg #[.int .i64 c.u,.int .i64 c.g],.int .i64 now,.int .i64 no,.int .i64 u,.int .i64 g] w fun e w'=>
   e=.returned (.int .i64 (S.chown c now no u g).2)∧∃ R',WdAt w' pw R' (S.chown c now no u g).1∧Stp (R.F pw) (R'.F pw) w w':=by
 have HO:=Lib.hid (fun w1 (hb1:Below w.heap.size w w1)=>own_any (h.keep hb1) hk c no);have HW:=Lib.hid h;have mixed:Tryz.prog.follows .mixedOrders=true:=by kernel_rfl
 obtain⟨pc,-,pz⟩:=h.blk.facts;clear h hk;go_enter Tryz.func98,Tryz.ntmps98;go_wp2_with fail;refine (HO.out _ (balloc (Below.refl _ _) _)).mono ?_;clear HO;rintro e w1 ⟨⟨h0,rfl⟩|⟨h0,d,ea,el,ec,hg,rfl,he⟩,hb1⟩
 ·have hbX:=bnext (balloc (Below.refl w.heap.size w) _) hb1;have HB:=Lib.hid hbX;have HC:=Lib.hid (chown_no (now:=now) (u:=u) (g:=g) h0);have hz:(S.ownE c no == 0)=false:=by simpa using h0
  generalize S.ownE c no=pe at HC hz ⊢;unfold An.v an0;clear h0 hb1 hbX pc;go_wp2_with fail;go_ret;rw [HC.out];exact⟨rfl,R,HW.out.keep (balloc HB.out _),Stp.of_below (balloc HB.out _)⟩
 ·have hbX:=balloc hb1 (.cells #[.int .i64 d.no,.int .i64 d.dev,.int .i64 d.kind,.int .i64 d.mode,.int .i64 d.uid,.int .i64 d.gid,.int .i64 d.mtime,.int .i64 d.ctime,.int .i64 d.links,.int .i64 d.up,.string d.data,.slice ea el ec] 163);have hCX:=((Blk.new w #[.int .i64 c.u,.int .i64 c.g] 54).keep hb1).old (.cells #[.int .i64 d.no,.int .i64 d.dev,.int .i64 d.kind,.int .i64 d.mode,.int .i64 d.uid,.int .i64 d.gid,.int .i64 d.mtime,.int .i64 d.ctime,.int .i64 d.links,.int .i64 d.up,.string d.data,.slice ea el ec] 163);have hDX:=Blk.new w1 #[.int .i64 d.no,.int .i64 d.dev,.int .i64 d.kind,.int .i64 d.mode,.int .i64 d.uid,.int .i64 d.gid,.int .i64 d.mtime,.int .i64 d.ctime,.int .i64 d.links,.int .i64 d.up,.string d.data,.slice ea el ec] 163;have hsz:=hb1.size;have HOw:=Lib.hid (ownE_yes h0 hg);have HSet:=Lib.hid (fun w1 (hb1:Below (w.alloc (.cells #[.int .i64 c.u,.int .i64 c.g] 54)).heap.size (w.alloc (.cells #[.int .i64 c.u,.int .i64 c.g] 54)) w1)=>(HW.out.keep (bnext (balloc (Below.refl _ _) _) hb1)).setN {d with uid:=u,gid:=g,ctime:=now} (he.keep hb1) (b:=d) (by rw [show ({d with uid:=u,gid:=g,ctime:=now}:An).no=d.no from rfl,an_no hg];exact hg));have HG:=Lib.hid hg;unfold An.v at HSet;unfold An.v;clear h0 hb1 he hg;go_upto_region 2 with fail;generalize w1.alloc (.cells #[.int .i64 d.no,.int .i64 d.dev,.int .i64 d.kind,.int .i64 d.mode,.int .i64 d.uid,.int .i64 d.gid,.int .i64 d.mtime,.int .i64 d.ctime,.int .i64 d.links,.int .i64 d.up,.string d.data,.slice ea el ec] 163)=X at hbX hCX hDX ⊢;obtain⟨dc,df,dz⟩:=hDX.facts;obtain⟨cc,-,-⟩:=hCX.facts;have HCX:=Lib.hid hCX;have HDX:=Lib.hid hDX;have HBX:=Lib.hid hbX;have HPC:=Lib.hid pc;have HPZ:=Lib.hid pz;clear hCX hDX hbX pc pz;by_cases h1:c.u≠0
  ·have h1':(c.u != 0)=true:=by simpa using h1
   have HE:=Lib.hid (show S.chown c now no u g=(S,4) by unfold Fs.chown;rw [HG.out];simp only;rw [if_neg (by rw [HOw.out];decide),if_pos h1]);clear h1;go_wp2_with fail;go_ret;rw [HE.out];exact⟨rfl,R,HW.out.keep (bnext (balloc (Below.refl _ _) _) HBX.out),Stp.of_below (bnext (balloc (Below.refl _ _) _) HBX.out)⟩
  have h1:c.u=0:=Decidable.not_not.1 h1;have h1':(c.u != 0)=false:=by simpa using h1
  have HF:=Lib.hid (fun w=>pfine_any u g w);by_cases h2:idB u g=false
  ·have h2':=h2;have HE:=Lib.hid (show S.chown c now no u g=(S,1) by unfold Fs.chown;rw [HG.out];simp only;rw [if_neg (by rw [HOw.out];decide),if_neg (by simp [h1]),if_pos h2']);rw [h2'] at HF;clear h1 h2 h2';go_wp2_with fail;refine (HF.out _).mono ?_;rintro e w5 ⟨rfl,hb5⟩;have HB5:=Lib.hid (HBX.out.trans (hb5.mono HBX.out.size));clear hb5;go_wp2_with fail;go_ret;rw [HE.out];exact⟨rfl,R,HW.out.keep (bnext (balloc (Below.refl _ _) _) HB5.out),Stp.of_below (bnext (balloc (Below.refl _ _) _) HB5.out)⟩
  have HE:=Lib.hid (show S.chown c now no u g=(S.set {d with uid:=u,gid:=g,ctime:=now},0) by unfold Fs.chown;rw [HG.out];simp only;rw [if_neg (by rw [HOw.out];decide),if_neg (by simp [h1]),if_neg h2]);have h2:idB u g=true:=by simpa using h2
  rw [h2] at HF;clear h1 h2;go_wp2_with fail;refine (HF.out _).mono ?_;rintro e w5 ⟨rfl,hb5⟩;have HB5:=Lib.hid (HBX.out.trans (hb5.mono HBX.out.size));have HD5:=Lib.hid (HDX.out.keep hb5);have hD5:=HD5.out;clear dc df dz cc hb5;obtain⟨dc,df,dz⟩:=hD5.facts;clear hD5;go_wp2_with fail;have hDY:=(((HD5.out.set 4 (.int .i64 u)).set 5 (.int .i64 g)).set 7 (.int .i64 now));have hbY:Below (w.alloc (.cells #[.int .i64 c.u,.int .i64 c.g] 54)).heap.size (w.alloc (.cells #[.int .i64 c.u,.int .i64 c.g] 54)) (((w5.setCell ⟨w1.heap.size,4,none⟩ (.int .i64 u)).setCell ⟨w1.heap.size,5,none⟩ (.int .i64 g)).setCell ⟨w1.heap.size,7,none⟩ (.int .i64 now)):=(((HB5.out.setCell hsz _).setCell hsz _).setCell hsz _);generalize (((w5.setCell ⟨w1.heap.size,4,none⟩ (.int .i64 u)).setCell ⟨w1.heap.size,5,none⟩ (.int .i64 g)).setCell ⟨w1.heap.size,7,none⟩ (.int .i64 now))=Y at hDY hbY ⊢;obtain⟨q0,q1,q2,q3,q4,q5,q6,q7,q8,q9,q10,q11⟩:=Blk.cells12 (x0:=.int .i64 d.no) hDY;have pc0:Y.cell? ⟨pw,0,none⟩=some (.pointer (some ⟨R.pt,0,none⟩)):=((bnext (balloc (Below.refl w.heap.size w) (.cells #[.int .i64 c.u,.int .i64 c.g] 54)) hbY).cell (p:=⟨pw,0,none⟩) HPZ.out).trans (HPC.out 0);have HS:=Lib.hid (HSet.out _ hbY.drew);have HY:=Lib.hid hbY;clear hDY hbY dc df dz
  try clear cc
  refine wp_region_lex 5 mixed (by kernel_rfl) then_panic ?_;simp only [List.take_succ_cons,List.take_zero,List.drop_succ_cons,List.drop_zero]
  repeat still_step
  refine wpStill_nil ?_;go_wp2_with fail;refine HS.out.mono ?_;rintro e w5 ⟨rfl,R',hR1,hR2,-,-⟩;have HR:=Lib.hid (And.intro hR1 hR2);clear hR1 hR2;go_wp2_with fail;go_ret;rw [HE.out];exact⟨rfl,R',HR.out.1,(Stp.of_below (bnext (balloc (Below.refl _ _) _) HY.out.drew)).trans HR.out.2⟩
theorem time_any (h:WdAt w pw R S) {N:Nat} (hk:FsOk S N) (c:Cr) (now no t:Int) :
  Calls Tryz.prog 100 #[.pointer (some ⟨pw,0,none⟩),.agg #[.int .i64 c.u,.int .i64 c.g],.int .i64 now,.int .i64 no,.int .i64 t] w fun e w'=>
   e=.returned (.int .i64 (S.utime c now no t).2)∧∃ R',WdAt w' pw R' (S.utime c now no t).1∧Stp (R.F pw) (R'.F pw) w w':=by
 have HO:=Lib.hid (fun w1 (hb1:Below w.heap.size w w1)=>own_any (h.keep hb1) hk c no);have HW:=Lib.hid h;have mixed:Tryz.prog.follows .mixedOrders=true:=by kernel_rfl
 obtain⟨pc,-,pz⟩:=h.blk.facts;clear h hk;go_enter Tryz.func100,Tryz.ntmps100;go_wp2_with fail;refine (HO.out _ (balloc (Below.refl _ _) _)).mono ?_;clear HO;rintro e w1 ⟨⟨h0,rfl⟩|⟨h0,d,ea,el,ec,hg,rfl,he⟩,hb1⟩
 ·have hbX:=bnext (balloc (Below.refl w.heap.size w) _) hb1;have HB:=Lib.hid hbX;have HC:=Lib.hid (utime_no (now:=now) (t:=t) h0);have hz:(S.ownE c no == 0)=false:=by simpa using h0
  generalize S.ownE c no=pe at HC hz ⊢;unfold An.v an0;clear h0 hb1 hbX pc;go_wp2_with fail;go_ret;rw [HC.out];exact⟨rfl,R,HW.out.keep (balloc HB.out _),Stp.of_below (balloc HB.out _)⟩
 ·have hbX:=balloc hb1 (.cells #[.int .i64 d.no,.int .i64 d.dev,.int .i64 d.kind,.int .i64 d.mode,.int .i64 d.uid,.int .i64 d.gid,.int .i64 d.mtime,.int .i64 d.ctime,.int .i64 d.links,.int .i64 d.up,.string d.data,.slice ea el ec] 163);have hCX:=((Blk.new w #[.int .i64 c.u,.int .i64 c.g] 54).keep hb1).old (.cells #[.int .i64 d.no,.int .i64 d.dev,.int .i64 d.kind,.int .i64 d.mode,.int .i64 d.uid,.int .i64 d.gid,.int .i64 d.mtime,.int .i64 d.ctime,.int .i64 d.links,.int .i64 d.up,.string d.data,.slice ea el ec] 163);have hDX:=Blk.new w1 #[.int .i64 d.no,.int .i64 d.dev,.int .i64 d.kind,.int .i64 d.mode,.int .i64 d.uid,.int .i64 d.gid,.int .i64 d.mtime,.int .i64 d.ctime,.int .i64 d.links,.int .i64 d.up,.string d.data,.slice ea el ec] 163;have hsz:=hb1.size;have HOw:=Lib.hid (ownE_yes h0 hg);have HSet:=Lib.hid (fun w1 (hb1:Below (w.alloc (.cells #[.int .i64 c.u,.int .i64 c.g] 54)).heap.size (w.alloc (.cells #[.int .i64 c.u,.int .i64 c.g] 54)) w1)=>(HW.out.keep (bnext (balloc (Below.refl _ _) _) hb1)).setN {d with mtime:=t,ctime:=now} (he.keep hb1) (b:=d) (by rw [show ({d with mtime:=t,ctime:=now}:An).no=d.no from rfl,an_no hg];exact hg));have HG:=Lib.hid hg;unfold An.v at HSet;unfold An.v;clear h0 hb1 he hg;go_upto_region 2 with fail;generalize w1.alloc (.cells #[.int .i64 d.no,.int .i64 d.dev,.int .i64 d.kind,.int .i64 d.mode,.int .i64 d.uid,.int .i64 d.gid,.int .i64 d.mtime,.int .i64 d.ctime,.int .i64 d.links,.int .i64 d.up,.string d.data,.slice ea el ec] 163)=X at hbX hCX hDX ⊢;obtain⟨dc,df,dz⟩:=hDX.facts;obtain⟨cc,-,-⟩:=hCX.facts;have HCX:=Lib.hid hCX;have HDX:=Lib.hid hDX;have HBX:=Lib.hid hbX;have HPC:=Lib.hid pc;have HPZ:=Lib.hid pz;clear hCX hDX hbX pc pz;by_cases h1:t<0
  ·skip
   have HE:=Lib.hid (show S.utime c now no t=(S,1) by unfold Fs.utime;rw [HG.out];simp only;rw [if_neg (by rw [HOw.out];decide),if_pos (.inl h1)]);go_wp2_with fail;go_ret;rw [HE.out];exact⟨rfl,R,HW.out.keep (bnext (balloc (Below.refl _ _) _) HBX.out),Stp.of_below (bnext (balloc (Below.refl _ _) _) HBX.out)⟩
  by_cases h2:253402300799<t
  ·skip
   have HE:=Lib.hid (show S.utime c now no t=(S,1) by unfold Fs.utime;rw [HG.out];simp only;rw [if_neg (by rw [HOw.out];decide),if_pos (.inr h2)]);go_wp2_with fail;go_ret;rw [HE.out];exact⟨rfl,R,HW.out.keep (bnext (balloc (Below.refl _ _) _) HBX.out),Stp.of_below (bnext (balloc (Below.refl _ _) _) HBX.out)⟩
  have HE:=Lib.hid (show S.utime c now no t=(S.set {d with mtime:=t,ctime:=now},0) by unfold Fs.utime;rw [HG.out];simp only;rw [if_neg (by rw [HOw.out];decide),if_neg (by omega)]);go_wp2_with fail;have hDY:=((HDX.out.set 6 (.int .i64 t)).set 7 (.int .i64 now));have hbY:Below (w.alloc (.cells #[.int .i64 c.u,.int .i64 c.g] 54)).heap.size (w.alloc (.cells #[.int .i64 c.u,.int .i64 c.g] 54)) ((X.setCell ⟨w1.heap.size,6,none⟩ (.int .i64 t)).setCell ⟨w1.heap.size,7,none⟩ (.int .i64 now)):=((HBX.out.setCell hsz _).setCell hsz _);generalize ((X.setCell ⟨w1.heap.size,6,none⟩ (.int .i64 t)).setCell ⟨w1.heap.size,7,none⟩ (.int .i64 now))=Y at hDY hbY ⊢;obtain⟨q0,q1,q2,q3,q4,q5,q6,q7,q8,q9,q10,q11⟩:=Blk.cells12 (x0:=.int .i64 d.no) hDY;have pc0:Y.cell? ⟨pw,0,none⟩=some (.pointer (some ⟨R.pt,0,none⟩)):=((bnext (balloc (Below.refl w.heap.size w) (.cells #[.int .i64 c.u,.int .i64 c.g] 54)) hbY).cell (p:=⟨pw,0,none⟩) HPZ.out).trans (HPC.out 0);have HS:=Lib.hid (HSet.out _ hbY.drew);have HY:=Lib.hid hbY;clear hDY hbY dc df dz
  try clear cc
  refine wp_region_lex 5 mixed (by kernel_rfl) then_panic ?_;simp only [List.take_succ_cons,List.take_zero,List.drop_succ_cons,List.drop_zero]
  repeat still_step
  refine wpStill_nil ?_;go_wp2_with fail;refine HS.out.mono ?_;rintro e w5 ⟨rfl,R',hR1,hR2,-,-⟩;have HR:=Lib.hid (And.intro hR1 hR2);clear hR1 hR2;go_wp2_with fail;go_ret;rw [HE.out];exact⟨rfl,R',HR.out.1,(Stp.of_below (bnext (balloc (Below.refl _ _) _) HY.out.drew)).trans HR.out.2⟩
end
end
section
open Go.RowKit
theorem sstat_results {tmps:Array Value} {W:World} {B:Nat} {y0 y1 y2 y3 y4 y5 y6 y7 y8 y9 e:Int} (hb:Blk W B #[.int .i64 y0,.int .i64 y1,.int .i64 y2,.int .i64 y3,.int .i64 y4,.int .i64 y5,.int .i64 y6,.int .i64 y7,.int .i64 y8,.int .i64 y9] 115)
  (h8:tmps.getD 4 undef=.pointer (some ⟨B,0,none⟩)) (h9:tmps.getD 5 undef=.int .i64 e):(results Tryz.f43 tmps).run Tryz.prog W=.ok (.tuple #[.agg #[.int .i64 y0,.int .i64 y1,.int .i64 y2,.int .i64 y3,.int .i64 y4,.int .i64 y5,.int .i64 y6,.int .i64 y7,.int .i64 y8,.int .i64 y9],.int .i64 e]) W:=by
 have q0:=hb.cell 0;have q1:=hb.cell 1;have q2:=hb.cell 2;have q3:=hb.cell 3;have q4:=hb.cell 4;have q5:=hb.cell 5;have q6:=hb.cell 6;have q7:=hb.cell 7;have q8:=hb.cell 8;have q9:=hb.cell 9;rw [Array.getD_eq_getD_getElem?] at h8 h9;simp [results,Tryz.results43,go_sem,h8,h9,q0,q1,q2,q3,q4,q5,q6,q7,q8,q9]
section
variable {w w':World} {pf pw:Nat} {R:Rp} {pv:Value} {Y:Sy}
theorem sstat_any (h:SyAt w pf pw R pv Y) {N:Nat} (hk:FsOk Y.fs N) (hd:Y.dead=false) (no:Int) :
  Calls Tryz.prog 43 #[.pointer (some ⟨pf,0,none⟩),.int .i64 no] w fun e w'=>e=.returned (.tuple #[stV (Y.fs.get no),.int .i64 (noneE (Y.fs.get no))])∧Below w.heap.size w w':=by
 have hRX:=Blk.new w #[.int .i64 0,.int .i64 0,.int .i64 0,.int .i64 0,.int .i64 0,.int .i64 0,.int .i64 0,.int .i64 0,.int .i64 0,.int .i64 0] 115;have hbX:=balloc (Below.refl w.heap.size w) (.cells #[.int .i64 0,.int .i64 0,.int .i64 0,.int .i64 0,.int .i64 0,.int .i64 0,.int .i64 0,.int .i64 0,.int .i64 0,.int .i64 0] 115);have HR:=Lib.hid (fun w1 (hb1:Below w.heap.size w w1)=>sread_any (h.keep hb1));rw [hd] at HR;have HS:=Lib.hid (fun w1 (hb1:Below w.heap.size w w1)=>stat_any (h.wd.keep hb1) hk no);obtain⟨pc,-,pz⟩:=h.blk.facts;have HPC:=Lib.hid (fun w1 (hb1:Below w.heap.size w w1)=>show w1.cell? ⟨pf,0,none⟩=some (.pointer (some ⟨pw,0,none⟩)) from (hb1.cell (p:=⟨pf,0,none⟩) pz).trans (pc 0));clear h hk hd pc pz
 cases hg:Y.fs.get no with
 | none=>
  rw [hg] at HS;unfold stV noneE at HS ⊢;clear hg;go_enter Tryz.func43,Tryz.ntmps43;go_wp2_with fail;refine (HR.out _ hbX).mono ?_;rintro e w1 ⟨rfl,rfl⟩;generalize w.alloc (.cells #[.int .i64 0,.int .i64 0,.int .i64 0,.int .i64 0,.int .i64 0,.int .i64 0,.int .i64 0,.int .i64 0,.int .i64 0,.int .i64 0] 115)=W0 at hRX hbX ⊢;have HRX:=Lib.hid hRX;have HBX:=Lib.hid hbX;have pc0:=HPC.out _ hbX;clear hRX hbX;go_wp2_with fail;refine (HS.out _ HBX.out).mono ?_;rintro e w1 ⟨rfl,hb1⟩;have hRY:=HRX.out.keep hb1;have HRY:=Lib.hid hRY;have HBY:=Lib.hid (HBX.out.trans (hb1.mono HBX.out.size));obtain⟨rc,rf,rz⟩:=hRY.facts;clear hRY hb1;go_wp2_with fail;exact bodyPost_ret (sstat_results HRY.out.set10 rfl rfl) rfl ⟨rfl,below_set10 HBY.out (Nat.le_refl _)⟩
 | some d=>
  rw [hg] at HS;unfold stV noneE at HS ⊢;clear hg;go_enter Tryz.func43,Tryz.ntmps43;go_wp2_with fail;refine (HR.out _ hbX).mono ?_;rintro e w1 ⟨rfl,rfl⟩;generalize w.alloc (.cells #[.int .i64 0,.int .i64 0,.int .i64 0,.int .i64 0,.int .i64 0,.int .i64 0,.int .i64 0,.int .i64 0,.int .i64 0,.int .i64 0] 115)=W0 at hRX hbX ⊢;have HRX:=Lib.hid hRX;have HBX:=Lib.hid hbX;have pc0:=HPC.out _ hbX;clear hRX hbX;go_wp2_with fail;refine (HS.out _ HBX.out).mono ?_;rintro e w1 ⟨rfl,hb1⟩;have hRY:=HRX.out.keep hb1;have HRY:=Lib.hid hRY;have HBY:=Lib.hid (HBX.out.trans (hb1.mono HBX.out.size));obtain⟨rc,rf,rz⟩:=hRY.facts;clear hRY hb1;go_wp2_with fail;exact bodyPost_ret (sstat_results HRY.out.set10 rfl rfl) rfl ⟨rfl,below_set10 HBY.out (Nat.le_refl _)⟩
theorem sreadF_any (h:SyAt w pf pw R pv Y) {N:Nat} (hk:FsOk Y.fs N) (hd:Y.dead=false) (c:Cr) (no:Int) :
  Calls Tryz.prog 76 #[.pointer (some ⟨pf,0,none⟩),.agg #[.int .i64 c.u,.int .i64 c.g],.int .i64 no] w fun e w'=>e=.returned (.tuple #[.string (Y.fs.read c no).1,.int .i64 (Y.fs.read c no).2])∧Below w.heap.size w w':=by
 have hCX:=Blk.new w #[.int .i64 c.u,.int .i64 c.g] 54;have hbX:=balloc (Below.refl w.heap.size w) (.cells #[.int .i64 c.u,.int .i64 c.g] 54);have HR:=Lib.hid (fun w1 (hb1:Below w.heap.size w w1)=>sread_any (h.keep hb1));rw [hd] at HR;have HS:=Lib.hid (fun w1 (hb1:Below w.heap.size w w1)=>pread_any (h.wd.keep hb1) hk c no);obtain⟨pc,-,pz⟩:=h.blk.facts;have HPC:=Lib.hid (fun w1 (hb1:Below w.heap.size w w1)=>show w1.cell? ⟨pf,0,none⟩=some (.pointer (some ⟨pw,0,none⟩)) from (hb1.cell (p:=⟨pf,0,none⟩) pz).trans (pc 0));have mixed:Tryz.prog.follows .mixedOrders=true:=by kernel_rfl
 generalize Y.fs.read c no=rd at HS ⊢;clear h hk hd pc pz;go_enter Tryz.func76,Tryz.ntmps76;go_wp2_with fail;refine (HR.out _ hbX).mono ?_;rintro e w1 ⟨rfl,rfl⟩;generalize w.alloc (.cells #[.int .i64 c.u,.int .i64 c.g] 54)=W0 at hCX hbX ⊢;have HBX:=Lib.hid hbX;have pc0:=HPC.out _ hbX;obtain⟨cc,-,cz⟩:=hCX.facts;clear hCX hbX;go_wp2_with fail;refine wp_region_lex 6 mixed (by kernel_rfl) (show PanicOk _ from by repeat (first | exact pk_body | refine pk_then ?_ | refine pk_block ?_ | refine pk_scope ?_)) ?_;simp only [List.take_succ_cons,List.take_zero,List.drop_succ_cons,List.drop_zero]
 repeat still_step
 refine wpStill_nil ?_;go_wp2_with fail;refine (HS.out _ HBX.out.drew).mono ?_;rintro e w1 ⟨rfl,hb1⟩;have HB:=Lib.hid (HBX.out.drew.trans (hb1.mono HBX.out.size));clear hb1;go_wp2_with fail;go_ret2;exact⟨rfl,HB.out⟩
end
end
section
open Go.RowKit
structure Us where
 u:Int
 g:Int
 data:ByteArray
def Us.c (x:Us):Cr:=⟨x.u,x.g⟩
def Us.v (x:Us):Value:=.agg #[.int .i64 x.u,.int .i64 x.g,.string x.data]
structure Plc where
 dir:Int
 name:ByteArray
 top:ByteArray
structure Cn where
 path:ByteArray
 dir:Int
 info:Int
 files:Int
 out:Int
 way:Int
 top:ByteArray
 deriving DecidableEq
def cn0:Cn:=⟨ByteArray.empty,0,0,0,0,0,ByteArray.empty⟩
def nHome:ByteArray:=ByteArray.mk #[84,114,97,115,104]
def nShared:ByteArray:=ByteArray.mk #[46,84,114,97,115,104]
def nInfo:ByteArray:=ByteArray.mk #[105,110,102,111]
def nFiles:ByteArray:=ByteArray.mk #[102,105,108,101,115]
def nOut:ByteArray:=ByteArray.mk #[101,120,112,117,110,103,101,100]
def nWay:ByteArray:=ByteArray.mk #[109,111,118,105,110,103]
def nDiary:ByteArray:=ByteArray.mk #[114,97,103,112,105,99,107,101,114,46,117,110,100,111]
def Fs.lookF (S:Fs) (d:Bool) (c:Cr) (dir:Int) (n:ByteArray):Int×Int:=
 if d=true then (0,20) else if S.openE c dir 1 1≠0 then (0,S.openE c dir 1 1)
 else if entFind (S.entsOf dir) n=0 then (0,5) else (S.over (entFind (S.entsOf dir) n),0)
def ownV (c:Cr) (x y:An) (no:Int):Int×Int:=
 if x.kind≠1 then (0,9) else if x.dev≠y.dev then (0,16) else if x.uid≠c.u then (0,4) else if x.may c 7=false then (0,6) else (no,0)
def Fs.ownF (S:Fs) (d:Bool) (c:Cr) (dir:Int) (n:ByteArray):Int×Int:=
 if (S.lookF d c dir n).2=5 then (0,0) else if (S.lookF d c dir n).2≠0 then (0,(S.lookF d c dir n).2)
 else ownV c (S.getZ (S.lookF d c dir n).1) (S.getZ dir) (S.lookF d c dir n).1
def Fs.dataF (S:Fs) (d:Bool) (u:Us):Int×Int:=
 if d=true then (0,20) else if (S.path u.c u.data true).2≠0 then (0,(S.path u.c u.data true).2)
 else if (S.path u.c u.data true).1.no=0 then (0,5) else if (S.getZ (S.path u.c u.data true).1.no).kind≠1 then (0,9) else ((S.path u.c u.data true).1.no,0)
def comV (x y:An) (no:Int):Int×Int:=
 if x.kind≠1 then (0,9) else if x.dev≠y.dev then (0,16) else if x.mode<512 then (0,4) else (no,0)
def Fs.commonF (S:Fs) (d:Bool) (c:Cr) (top:Int):Int×Int:=
 if (S.lookF d c top nShared).2≠0 then (0,(S.lookF d c top nShared).2)
 else comV (S.getZ (S.lookF d c top nShared).1) (S.getZ top) (S.lookF d c top nShared).1
def decB (n:Int):ByteArray:=str (decL n)
def nSharedU (u:Int):ByteArray:=ByteArray.mk #[46,84,114,97,115,104,45] ++ decB u
def Fs.placesF (S:Fs) (d:Bool) (u:Us) (top:Int) (path:ByteArray):List Plc:=
 (if (S.commonF d u.c top).2=0 then [⟨(S.commonF d u.c top).1,decB u.u,path⟩] else []) ++ [⟨top,nSharedU u.u,path⟩]
def thereV (r:Int×Int):Int×Int:=if r.2=0∧r.1=0 then (0,5) else r
def Fs.openK0 (S:Fs) (dir:Int) (top:ByteArray) (i f o y:Int):Cn×Int:=match S.place_ dir with
 | none=>(cn0,5)
 | some s=>(⟨s,dir,i,f,o,y,top⟩,0)
def Fs.openK1 (S:Fs) (d:Bool) (c:Cr) (dir:Int) (top:ByteArray) (i f o:Int):Cn×Int:=
 if (S.ownF d c dir nWay).2≠0 then (cn0,(S.ownF d c dir nWay).2) else S.openK0 dir top i f o (S.ownF d c dir nWay).1
def Fs.openK2 (S:Fs) (d:Bool) (c:Cr) (dir:Int) (top:ByteArray) (i f:Int):Cn×Int:=
 if (S.ownF d c dir nOut).2≠0 then (cn0,(S.ownF d c dir nOut).2) else S.openK1 d c dir top i f (S.ownF d c dir nOut).1
def Fs.openK3 (S:Fs) (d:Bool) (c:Cr) (dir:Int) (top:ByteArray) (i:Int):Cn×Int:=
 if (thereV (S.ownF d c dir nFiles)).2≠0 then (cn0,(thereV (S.ownF d c dir nFiles)).2) else S.openK2 d c dir top i (thereV (S.ownF d c dir nFiles)).1
def Fs.openK4 (S:Fs) (d:Bool) (c:Cr) (dir:Int) (top:ByteArray):Cn×Int:=
 if (thereV (S.ownF d c dir nInfo)).2≠0 then (cn0,(thereV (S.ownF d c dir nInfo)).2) else S.openK3 d c dir top (thereV (S.ownF d c dir nInfo)).1
def Fs.openF (S:Fs) (d:Bool) (u:Us) (p:Plc):Cn×Int:=
 if (thereV (S.ownF d u.c p.dir p.name)).2≠0 then (cn0,(thereV (S.ownF d u.c p.dir p.name)).2) else S.openK4 d u.c (thereV (S.ownF d u.c p.dir p.name)).1 p.top
theorem thereV_0 {no:Int} (h:no≠0):thereV (no,0)=(no,0):=by
 unfold thereV;rw [if_neg (by simpa using h)]
theorem thereV_z:thereV (0,0)=(0,5):=rfl
theorem thereV_e (no:Int) {e:Int} (h:e≠0):thereV (no,e)=(no,e):=by
 unfold thereV;rw [if_neg (fun k=>h k.1)]
def putCn (l:List Cn) (x:Cn):List Cn:=if l.any (fun y=>y.dir == x.dir)=true then l else l ++ [x]
def Fs.addCn (S:Fs) (d:Bool) (u:Us) (l:List Cn) (p:Plc):List Cn:=if (S.openF d u p).2=0 then putCn l (S.openF d u p).1 else l
def Fs.homeL (S:Fs) (d:Bool) (u:Us):List Cn:=
 if (S.dataF d u).2=0 then (if (S.openF d u ⟨(S.dataF d u).1,nHome,ByteArray.empty⟩).2=0 then [(S.openF d u ⟨(S.dataF d u).1,nHome,ByteArray.empty⟩).1] else []) else []
def Fs.topCn (S:Fs) (d:Bool) (u:Us) (l:List Cn) (t:Int×ByteArray):List Cn:=(S.placesF d u t.1 t.2).foldl (S.addCn d u) l
def Fs.allCn (S:Fs) (d:Bool) (u:Us):List Cn:=S.topsL.foldl (S.topCn d u) (S.homeL d u)
def Fs.keepsF (S:Fs) (d:Bool) (u:Us) (no dir:Int) (n:ByteArray):Int:=
 if (S.allCn d u).any (fun x=>S.within x.dir no || S.within dir x.dir)=true then 17
 else if (S.dataF d u).2=0∧(S.within (S.dataF d u).1 no=true∨dir=(S.dataF d u).1∧n=nDiary) then 17 else 0
def Fs.homeP (S:Fs) (d:Bool) (u:Us):List ByteArray:=
 if (S.dataF d u).2=0 then (match S.place_ (S.dataF d u).1 with | some s=>[belowB s nHome] | none=>[]) else []
def pathP (u:Us) (t:Int×ByteArray):List ByteArray:=[belowB (belowB t.2 nShared) (decB u.u),belowB t.2 (nSharedU u.u)]
def Fs.pathsF (S:Fs) (d:Bool) (u:Us):List ByteArray:=S.homeP d u ++ S.topsL.flatMap (pathP u)
structure Fine (S:Fs) (N:Nat):Prop where
 ok:FsOk S N
 pl:Pl S
 tr:Tr S
 wy:Wy S
 nm:Nm S
theorem plant_fine (ms:List Mt) (is:List It):Fine (plantF ms is) (1+2*ms.length+is.length):=⟨plant_ok ms is,plant_pl ms is,plant_tr ms is,plant_wy ms is,plant_nm ms is⟩
theorem Fine.mkdir {S:Fs} {N:Nat} (h:Fine S N) (c:Cr) (now dir:Int) (s:ByteArray) (m:Int):Fine (S.mkdir c now dir s m).1 (N+1):=
 ⟨mkdir_ok h.ok c now dir s m,h.pl.mkdir h.ok c now dir s m,h.tr.mkdir h.ok c now dir s m,h.wy.mkdir h.ok h.tr c now dir s m,h.nm.mkdir c now dir s m⟩
theorem Fine.file {S:Fs} {N:Nat} (h:Fine S N) (c:Cr) (now dir:Int) (s:ByteArray) (m:Int) (t:ByteArray):Fine (S.file c now dir s m t).1 (N+1):=
 ⟨file_ok h.ok c now dir s m t,h.pl.file h.ok c now dir s m t,h.tr.file h.ok c now dir s m t,h.wy.file h.ok h.tr c now dir s m t,h.nm.file c now dir s m t⟩
theorem Fine.mono {S:Fs} {N M:Nat} (h:Fine S N) (hM:N≤M):Fine S M:=⟨h.ok.mono hM,h.pl,h.tr,h.wy,h.nm⟩
theorem getZ_cases (S:Fs) (k:Int):(∃ a,S.get k=some a∧S.getZ k=a)∨(S.get k=none∧S.getZ k=an0):=by
 cases hg:S.get k with
 | none=>exact .inr ⟨rfl,getZ_none hg⟩
 | some a=>exact .inl ⟨a,rfl,getZ_some hg⟩
theorem above_there {S:Fs} {N:Nat} (hk:FsOk S N) (hp:Pl S) (hw:Wy S) {k:Int} {a:An} (hg:S.get k=some a) (hd:a.kind=1):∃ b,S.get (S.above k)=some b:=by
 unfold Fs.above;rw [hg];dsimp only;rw [if_neg (by omega)];by_cases hr:S.root a.dev=k∧1<a.dev
 ·rw [if_pos hr];have h8:=(hk.get hg).1.dev;obtain⟨v,hv,hi⟩:=dev_of h8.1 h8.2;obtain⟨hlt,he⟩:=List.getElem?_eq_some_iff.1 hi;obtain⟨b,hb,hbk,-⟩:=hp.over _ hlt (by omega);rw [he] at hb;obtain⟨x,hx,-⟩:=hw.ud b (an_mem hb) hbk;exact⟨x,by rw [hv];dsimp only;rw [hb];exact hx⟩
 ·rw [if_neg hr];obtain⟨x,hx,-⟩:=hw.ud a (an_mem hg) hd;exact⟨x,hx⟩
def Ends (S:Fs) (x:Fd×Int):Prop:=x.2=0→x.1.no≠0→∃ a,S.get x.1.no=some a
theorem ends_bad (S:Fs) {e:Int} (x:Fd) (h:e≠0):Ends S (x,e):=fun h'=>absurd h' h
theorem seekL_ends {S:Fs} {N:Nat} (hk:FsOk S N) (hp:Pl S) (hw:Wy S) (c:Cr) (f:Bool) (k:Option (Int→Bool→List (List UInt8)→Fd×Int))
  (hkk:∀ g,k=some g→∀ at' must l,(∃ a,S.get at'=some a)→Ends S (g at' must l)) :
  ∀ (l:List (List UInt8)) (at':Int) (must:Bool),(∃ a,S.get at'=some a)→Ends S (S.seekL c f k l at' must)
 | [],at',must,h=>fun _ _=>h
 | p :: l,at',must,h=>by
  rw [Fs.seekL]
  split
  ·rename_i h2;exact ends_bad S _ h2
  ·rename_i h2;have h2':(S.step c at' p).2=0:=by simpa using h2
   split
   ·rename_i hpp;refine seekL_ends hk hp hw c f k hkk l _ must ?_;obtain⟨a,ha⟩:=h;unfold Fs.step at h2' ⊢;rw [ha] at h2' ⊢;dsimp only at h2' ⊢;by_cases hd:a.kind=1
    ·rw [if_neg (by omega)] at h2' ⊢;by_cases hm:a.may c 1=false
     ·rw [if_pos hm] at h2'
      cases h2'
     ·rw [if_neg hm,if_pos hpp];exact above_there hk hp hw ha hd
    ·rw [if_pos hd] at h2'
     cases h2'
   ·split
    ·split
     ·exact fun _ h0=>absurd rfl h0
     ·exact ends_bad S _ (by decide)
    ·rename_i n hn
     split
     ·split
      ·exact ends_bad S _ (by decide)
      ·rename_i g hgk
       split
       ·exact ends_bad S _ (by decide)
       ·refine hkk _ rfl _ _ _ ?_
        split
        ·obtain ⟨a,ha,-⟩:=hp.one;exact⟨a,ha⟩
        ·exact h
     ·split
      ·exact ends_bad S _ (by decide)
      ·split
       ·exact fun _ _=>⟨n,hn⟩
       ·exact seekL_ends hk hp hw c f k hkk l _ must ⟨n,hn⟩
theorem seekH_ends {S:Fs} {N:Nat} (hk:FsOk S N) (hp:Pl S) (hw:Wy S) (c:Cr) (f:Bool):∀ (h:Nat) (at':Int) (must:Bool) (l:List (List UInt8)),(∃ a,S.get at'=some a)→Ends S (S.seekH c f h at' must l)
 | 0,at',must,l,ha=>seekL_ends hk hp hw c f none (fun _ h=>by cases h) l at' must ha
 | h+1,at',must,l,ha=>seekL_ends hk hp hw c f _ (fun g hg at2 must2 l2 h2=>by
  injection hg with hg;subst hg;exact seekH_ends hk hp hw c f h at2 must2 l2 h2) l at' must ha
theorem path_ends {S:Fs} {N:Nat} (hk:FsOk S N) (hp:Pl S) (hw:Wy S) (c:Cr) (s:ByteArray) (f:Bool):Ends S (S.path c s f):=by
 unfold Fs.path
 split
 ·rename_i h;exact ends_bad S _ h
 ·obtain ⟨a,ha,-⟩:=hp.one;exact seekH_ends hk hp hw c f 8 1 _ _ ⟨a,ha⟩
end
end Go.Proofs.YtbndfmkgamdgeaaGreatDoor
