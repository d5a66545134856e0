import Derived.Deep.CutBlock
import Derived.Deep.DeepCutAuto
import Derived.RegionTactic
import Derived.BigRegion
import Derived.Test.YtihdbncoijhihaaGreatCL10
import Derived.Test.YtihdbncoijhihaaGreatCL20
import Derived.Test.YtihdbncoijhihaaGreatCL8
import Derived.Test.YtihdbncoijhihaaGreatCL9
set_option linter.unusedVariables false
set_option linter.unusedSimpArgs false
set_option maxRecDepth 100000
set_option maxHeartbeats 16000000
namespace Go.Proofs.YtihdbncoijhihaaGreat
section
open Go.RowKit
def fltC (x:Int×Int):List Value:=[.int .i64 x.1,.int .i64 x.2]
theorem fltC_len (x:Int×Int):(fltC x).length=2:=rfl
def fltR (cs:List Value) (x:Int×Int):Prop:=cs=fltC x
structure SyAt (w:World) (pf pw:Nat) (R:Rp) (pv:Value) (Y:Sy):Prop where
 blk:Blk w pf #[.pointer (some ⟨pw,0,none⟩),.int .i64 Y.now,.int .i64 Y.count,pv,.bool Y.dead] 54
 wd:WdAt w pw R Y.fs
 plan:w.ownsRow 0 242 2 pv Y.plan.length (Y.plan.flatMap fltC)
def Rp.Y (R:Rp) (pf pw:Nat) (k:Nat):Prop:=k=pf∨R.F pw k
section
variable {w w':World} {pf pw:Nat} {R:Rp} {pv:Value} {Y:Sy}
theorem SyAt.keep (h:SyAt w pf pw R pv Y) (hb:Below w.heap.size w w'):SyAt w' pf pw R pv Y:=
 ⟨h.blk.keep hb,h.wd.keep hb,own_below h.plan hb (Nat.le_refl _)⟩
theorem SyAt.apart (h:SyAt w pf pw R pv Y) {k:Nat} (hk:R.F pw k):k≠pf:=by
 rintro rfl;obtain⟨o,ho,hd⟩:=h.wd.kind hk;have hb:=h.blk;unfold Blk at hb;rw [hb] at ho;injection ho with ho;subst ho
 cases hd
theorem SyAt.plan_apart (h:SyAt w pf pw R pv Y) {k:Nat} (hk:R.Y pf pw k):pv.ownBlock≠some k:=by
 intro he;obtain⟨-,cur,hc⟩:=own_obj1 h.plan he;rcases hk with rfl | hk
 ·have hb:=h.blk;unfold Blk at hb;rw [hb] at hc
  cases hc
 ·obtain ⟨o,ho,hd⟩:=h.wd.kind hk;rw [hc] at ho;injection ho with ho;subst ho
  cases hd
theorem SyAt.step (h:SyAt w pf pw R pv Y) {R':Rp} {S:Fs} (hw:WdAt w' pw R' S) (hs:Stp (R.F pw) (R'.F pw) w w'):SyAt w' pf pw R' pv {Y with fs:=S}:=
 ⟨h.blk.mod hs.mod (fun hk=>h.apart hk rfl),hw,own_mod h.plan hs.mod (fun k hk=>h.plan_apart (.inr hk))⟩
theorem SyAt.turnF (h:SyAt w pf pw R pv Y) (hm:Mod (fun k=>k=pf) w w') {Z:Sy} (hz:Z.fs=Y.fs) (hp:Z.plan=Y.plan) (hb:Blk w' pf #[.pointer (some ⟨pw,0,none⟩),.int .i64 Z.now,.int .i64 Z.count,pv,.bool Z.dead] 54):SyAt w' pf pw R pv Z:=
 ⟨hb,by rw [hz];exact h.wd.mod hm (fun k o hk ho=>by
   subst hk;have hb:=h.blk;unfold Blk at hb;rw [hb] at ho;injection ho with ho;subst ho;exact⟨rfl,fun cur e=>by cases e⟩),
  by rw [hp];exact own_mod h.plan hm (fun k hk=>h.plan_apart (.inl hk))⟩
theorem stpY {R R':Rp} {pf pw:Nat} {w w':World} (h:Stp (R.F pw) (R'.F pw) w w'):Stp (R.Y pf pw) (R'.Y pf pw) w w':=
 ⟨h.mod.mono (fun k hk=>.inr hk),fun k hk=>hk.elim (fun e=>.inl (.inl e)) (fun hk=>(h.new k hk).imp .inr id)⟩
theorem stpF {R:Rp} {pf pw:Nat} {w w':World} (h:Mod (fun k=>k=pf) w w'):Stp (R.Y pf pw) (R.Y pf pw) w w':=Stp.of_mod (h.mono (fun k hk=>.inl hk))
theorem snone_any (h:SyAt w pf pw R pv Y) :
  Calls Tryz.prog 84 #[.pointer (some ⟨pf,0,none⟩)] w fun e w'=>e=.returned (.bool false)∧w=w':=by
 obtain⟨pc,-,-⟩:=h.blk.facts;clear h;go_enter Tryz.func84,Tryz.ntmps84;go_wp2_with fail;go_ret;exact⟨rfl,rfl⟩
theorem sread_any (h:SyAt w pf pw R pv Y) :
  Calls Tryz.prog 61 #[.pointer (some ⟨pf,0,none⟩)] w fun e w'=>e=.returned (.int .i64 (if Y.dead then 20 else 0))∧w=w':=by
 have HN:=Lib.hid (snone_any h);obtain⟨pc,-,-⟩:=h.blk.facts;clear h
 cases hd:Y.dead with
 | true=>
  rw [hd] at pc;clear hd;go_enter Tryz.func61,Tryz.ntmps61;go_wp2_with (refine HN.out.mono ?_;rintro e w1 ⟨rfl,rfl⟩);go_ret;exact⟨rfl,rfl⟩
 | false=>
  rw [hd] at pc;clear hd;go_enter Tryz.func61,Tryz.ntmps61;go_wp2_with (refine HN.out.mono ?_;rintro e w1 ⟨rfl,rfl⟩);go_ret;exact⟨rfl,rfl⟩
theorem change_dead (h:Y.dead=true):Y.change=(Y,20):=by unfold Sy.change;rw [if_pos h]
theorem change_none (h:Y.dead=false) (hf:∀ x∈Y.plan,x.1≠Y.count+1):Y.change=({Y with count:=Y.count+1},0):=by
 unfold Sy.change;rw [if_neg (by simp [h])];rw [List.find?_eq_none.2 (by simpa using hf)]
theorem change_at (h:Y.dead=false) {i:Nat} (hi:i<Y.plan.length) (hb:∀ j (hj:j<Y.plan.length),j<i→Y.plan[j].1≠Y.count+1) (he:Y.plan[i].1=Y.count+1) :
  Y.change=({Y with count:=Y.count+1,dead:=Y.plan[i].2 == 20},Y.plan[i].2):=by
 unfold Sy.change;rw [if_neg (by simp [h])];have:Y.plan.find? (fun x=>x.1 == Y.count+1)=some Y.plan[i]:=by
  rw [List.find?_eq_some_iff_getElem];exact⟨by simpa using he,i,hi,rfl,fun j hj=>by simpa using hb j (by omega) hj⟩
 rw [this]
theorem change_any (h:SyAt w pf pw R pv Y) (hc:0≤Y.count∧Y.count≤4611686018427387904) (hl:Y.plan.length≤1000000) :
  Calls Tryz.prog 79 #[.pointer (some ⟨pf,0,none⟩)] w fun e w'=>e=.returned (.int .i64 Y.change.2)∧SyAt w' pf pw R pv Y.change.1∧Mod (fun k=>k=pf) w w':=by
 have HR:=Lib.hid (sread_any h);have HY:=Lib.hid h;obtain⟨hc0,hc1⟩:=hc;obtain⟨pc,pf',pz⟩:=h.blk.facts
 cases hd:Y.dead with
 | true=>
  have HE:=Lib.hid (change_dead hd);rw [hd] at HR;clear h hd;go_enter Tryz.func79,Tryz.ntmps79;go_wp2_with (refine HR.out.mono ?_;rintro e w1 ⟨rfl,rfl⟩);go_ret;rw [HE.out];exact⟨rfl,HY.out,Mod.refl _ _⟩
 | false=>
  rw [hd] at HR pc;have HD:=Lib.hid hd;obtain⟨pa,pcap,rfl,hle,h63,hpf⟩:=own_form h.plan;have hSl:=own_slice (R:=fltR) (by omega) fltC_len (fun _=>rfl) h.plan;have HSl:=Lib.hid hSl;have HPf:=Lib.hid hpf;clear h hd hSl hpf;go_enter Tryz.func79,Tryz.ntmps79;have hB1:=HY.out.blk;rw [HD.out] at hB1;have HB1:=Lib.hid (hB1.set 2 (.int .i64 (Y.count+1)));clear hB1;go_wp2_with (refine HR.out.mono ?_;rintro e w1 ⟨rfl,rfl⟩)
  go_loopw [23] (fun t23 wr=>∃ k:Nat,k≤Y.plan.length∧t23=.int .i64 k∧Blk wr pf #[.pointer (some ⟨pw,0,none⟩),.int .i64 Y.now,.int .i64 (Y.count+1),.slice pa Y.plan.length pcap,.bool false] 54∧Mod (fun x=>x=pf) w wr∧(∀ j (hj:j<Y.plan.length),j<k→Y.plan[j].1≠Y.count+1)) (fun t23 _=>Y.plan.length - (intOf t23).toNat)
  case atStart=>exact ⟨0,Nat.zero_le _,rfl,HB1.out,(Mod.refl (fun x=>x=pf) w).setCell (a:=⟨pf,2,none⟩) (.inl rfl) _,fun j _ h=>absurd h (Nat.not_lt_zero _)⟩
  case round=>
   obtain⟨k,hk,rfl,hb,hm,hbef⟩:=hrel;have HBw:=Lib.hid hb;have HMw:=Lib.hid hm;have HBe:=Lib.hid hbef;obtain⟨bc,bf,bz⟩:=hb.facts;have hpl:=own_mod HY.out.plan hm (fun k hk=>HY.out.plan_apart (.inl hk));clear hb hbef;by_cases hlt:k<Y.plan.length
   ·obtain ⟨-,-,-,h0 | ⟨b,off,he,hbl,hel⟩⟩:=own_slice (R:=fltR) (by omega) fltC_len (fun _=>rfl) hpl
    ·omega
    ·subst he;obtain⟨cs,e1,e2,e3⟩:=hel k hlt;unfold fltR at e2;subst e2;have c0:=e3 0 (by rw [fltC_len];omega);have c1:=e3 1 (by rw [fltC_len];omega);obtain⟨fa,fw,hfe⟩:∃ fa fw,Y.plan[k]=(fa,fw):=⟨_,_,rfl⟩;have HFe:=Lib.hid hfe;have c0':wr.cell? ⟨b,off+k*2,none⟩=some (.int .i64 fa):=by rw [hfe] at c0;exact c0
     have c1':wr.cell? ⟨b,off+k*2+1,none⟩=some (.int .i64 fw):=by rw [hfe] at c1;exact c1
     have mixed:Tryz.prog.follows .mixedOrders=true:=by kernel_rfl
     clear hel e1 e3 c0 c1 hpl hm hfe;have hBX:=HBw.out.old (.cells #[.int .i64 fa,.int .i64 fw] 242);have hMX:=HMw.out.alloc (.cells #[.int .i64 fa,.int .i64 fw] 242);have hXX:=Blk.new wr #[.int .i64 fa,.int .i64 fw] 242;go_upto_region 8 with fail;generalize wr.alloc (.cells #[.int .i64 fa,.int .i64 fw] 242)=X at hBX hMX hXX ⊢;have HBX:=Lib.hid hBX;have HMX:=Lib.hid hMX;obtain⟨xc,xf,xz⟩:=hXX.facts;clear bc bf bz c0' c1';obtain⟨bc,bf,bz⟩:=hBX.facts;clear hBX hMX hXX;refine wp_region_lex 6 mixed (by kernel_rfl) (show PanicOk _ from by repeat (first | exact pk_body | refine pk_then ?_ | refine pk_block ?_ | refine pk_scope ?_)) ?_;simp only [List.take_succ_cons,List.take_zero,List.drop_succ_cons,List.drop_zero]
     repeat still_step
     refine wpStill_nil ?_;by_cases he:fa=Y.count+1
     ·have HE:=Lib.hid (change_at HD.out hlt HBe.out (by rw [HFe.out];exact he));rw [HFe.out] at HE;have heb:(fa == Y.count+1)=true:=by simpa using he
      clear he;by_cases h20:fw=20
      ·have h20':(fw == 20)=true:=by simpa using h20
       have HV:=Lib.hid (show (fw == 20)=true from h20');clear h20;go_wp2_with fail;go_ret;rw [HE.out];exact⟨rfl,HY.out.turnF (HMX.out.drew.setCell (a:=⟨pf,4,none⟩) (.inl rfl) _) rfl rfl (by dsimp only;rw [HV.out];exact HBX.out.drew.set 4 _),HMX.out.drew.setCell (a:=⟨pf,4,none⟩) (.inl rfl) _⟩
      ·have h20':(fw == 20)=false:=by simpa using h20
       have HV:=Lib.hid (show (fw == 20)=false from h20');clear h20;go_wp2_with fail;go_ret;rw [HE.out];exact⟨rfl,HY.out.turnF (HMX.out.drew.setCell (a:=⟨pf,4,none⟩) (.inl rfl) _) rfl rfl (by dsimp only;rw [HV.out];exact HBX.out.drew.set 4 _),HMX.out.drew.setCell (a:=⟨pf,4,none⟩) (.inl rfl) _⟩
     ·have heb:(fa == Y.count+1)=false:=by simpa using he
      have HN:=Lib.hid he;clear he;go_wp2_with fail;go_roundw
      case rel=>exact ⟨k+1,by omega,by go_num,HBX.out.drew,HMX.out.drew,fun j hj hlt2=>by
       by_cases hjk:j=k
       ·subst hjk;rw [HFe.out];exact HN.out
       ·exact HBe.out j hj (by omega)⟩
      case measure=>simp [intOf];omega
   ·obtain rfl:k=Y.plan.length:=by omega
    have HE:=Lib.hid (change_none HD.out (fun x hx=>by obtain ⟨j,hj,rfl⟩:=List.mem_iff_getElem.1 hx;exact HBe.out j hj hj));clear hm hpl;go_wp2_with fail;go_ret;rw [HE.out];exact⟨rfl,HY.out.turnF HMw.out rfl rfl (by rw [HD.out];exact HBw.out),HMw.out⟩
end
end
section
open Go.RowKit
theorem own_results {tmps:Array Value} {W:World} {B:Nat} {a:An} {ea:Option Addr} {el ec:Nat} {e:Int} (hb:Blk W B #[.int .i64 a.no,.int .i64 a.dev,.int .i64 a.kind,.int .i64 a.mode,.int .i64 a.uid,.int .i64 a.gid,.int .i64 a.mtime,.int .i64 a.ctime,.int .i64 a.links,.int .i64 a.up,.string a.data,.slice ea el ec] 49)
  (h8:tmps.getD 6 undef=.pointer (some ⟨B,0,none⟩)) (h9:tmps.getD 7 undef=.int .i64 e):(results Tryz.f232 tmps).run Tryz.prog W=.ok (.tuple #[a.v ea el ec,.int .i64 e]) W:=by
 obtain⟨q0,q1,q2,q3,q4,q5,q6,q7,q8,q9,q10,q11⟩:=hb.cells12;rw [Array.getD_eq_getD_getElem?] at h8 h9;simp [results,Tryz.results232,go_sem,An.v,h8,h9,q0,q1,q2,q3,q4,q5,q6,q7,q8,q9,q10,q11]
def Fs.ownE (S:Fs) (c:Cr) (no:Int):Int:=match S.get no with
 | none=>5
 | some n=>if ownsB c n=false then 4 else 0
section
variable {w w':World} {pw:Nat} {R:Rp} {S:Fs}
theorem own_none (h:WdAt w pw R S) {N:Nat} (hk:FsOk S N) (c:Cr) (no:Int) (hg:S.get no=none) :
  Calls Tryz.prog 232 #[.pointer (some ⟨pw,0,none⟩),.agg #[.int .i64 c.u,.int .i64 c.g],.int .i64 no] w fun e w'=>e=.returned (.tuple #[an0.v none 0 0,.int .i64 5])∧Below w.heap.size w w':=by
 have HDv:=Lib.hid (fun w1 (hb1:Below w.heap.size w w1)=>wdevs_any (h.keep hb1) hk.d1);have hnz:=hk.d1;generalize S.ds.length=n at HDv hnz;have hz:((n:Int) == 0)=false:=by simp;omega
 have HG:=Lib.hid (fun w1 (hb1:Below w.heap.size w w1)=>wget_no (h.keep hb1) hg);obtain⟨pc,-,pz⟩:=h.blk.facts;unfold An.v an0 at HG;clear h hk hg;go_enter Tryz.func232,Tryz.ntmps232;go_wp2_with fail;refine (HDv.out _ (balloc (balloc (Below.refl _ _) _) _)).mono ?_;rintro e w1 ⟨rfl,rfl⟩;go_wp2_with fail;refine (HG.out _ (balloc (balloc (Below.refl _ _) _) _)).mono ?_;rintro e w1 ⟨rfl,hb1⟩;have hb2:=bnext (balloc (balloc (Below.refl w.heap.size w) _) _) hb1;have hR:Blk w1 (w.heap.size+1) #[.int .i64 0,.int .i64 0,.int .i64 0,.int .i64 0,.int .i64 0,.int .i64 0,.int .i64 0,.int .i64 0,.int .i64 0,.int .i64 0,.string ⟨#[]⟩,.slice none 0 0] 49:=by
  have:=((Blk.new (w.alloc (.cells #[.int .i64 c.u,.int .i64 c.g] 67)) #[.int .i64 0,.int .i64 0,.int .i64 0,.int .i64 0,.int .i64 0,.int .i64 0,.int .i64 0,.int .i64 0,.int .i64 0,.int .i64 0,.string ⟨#[]⟩,.slice none 0 0] 49).keep hb1)
  rwa [World.size_alloc] at this
 have hRX:=hR.old (.cells #[.int .i64 0,.int .i64 0,.int .i64 0,.int .i64 0,.int .i64 0,.int .i64 0,.int .i64 0,.int .i64 0,.int .i64 0,.int .i64 0,.string ByteArray.empty,.slice none 0 0] 49);have hbX:=balloc hb2 (.cells #[.int .i64 0,.int .i64 0,.int .i64 0,.int .i64 0,.int .i64 0,.int .i64 0,.int .i64 0,.int .i64 0,.int .i64 0,.int .i64 0,.string ByteArray.empty,.slice none 0 0] 49);clear hR hb1 hb2 pc;go_upto_region 4 with fail;generalize w1.alloc (.cells #[.int .i64 0,.int .i64 0,.int .i64 0,.int .i64 0,.int .i64 0,.int .i64 0,.int .i64 0,.int .i64 0,.int .i64 0,.int .i64 0,.string ByteArray.empty,.slice none 0 0] 49)=X at hRX hbX ⊢;have HRX:=Lib.hid hRX;have HBX:=Lib.hid hbX;obtain⟨rc,rf,rz⟩:=hRX.facts;clear hRX hbX;go_wp2_with fail;exact bodyPost_ret (own_results (a:=an0) HRX.out.set12 rfl rfl) rfl ⟨rfl,below_set12 HBX.out (Nat.le_succ _)⟩
theorem own_some (h:WdAt w pw R S) {N:Nat} (hk:FsOk S N) (c:Cr) (no:Int) (d:An) (hg:S.get no=some d) :
  Calls Tryz.prog 232 #[.pointer (some ⟨pw,0,none⟩),.agg #[.int .i64 c.u,.int .i64 c.g],.int .i64 no] w fun e w'=>((ownsB c d=false∧e=.returned (.tuple #[an0.v none 0 0,.int .i64 4]))∨(ownsB c d=true∧∃ ea el ec,e=.returned (.tuple #[d.v ea el ec,.int .i64 0])∧EntsAt w ea el ec d.ents))∧Below w.heap.size w w':=by
 have HDv:=Lib.hid (fun w1 (hb1:Below w.heap.size w w1)=>wdevs_any (h.keep hb1) hk.d1);have hnz:=hk.d1;generalize S.ds.length=n at HDv hnz;have hz:((n:Int) == 0)=false:=by simp;omega
 obtain⟨ea,el,ec,he,hG⟩:=wget_fix h hg;have HE:=Lib.hid he;have HG:=Lib.hid hG;unfold An.v at HG;have HNd:=Lib.hid (fun w=>powns_any c d ea el ec w);unfold Cr.v An.v at HNd;obtain⟨pc,-,pz⟩:=h.blk.facts;generalize ownsB c d=my at HNd ⊢;clear h hk hg he hG;go_enter Tryz.func232,Tryz.ntmps232;go_wp2_with fail;refine (HDv.out _ (balloc (balloc (Below.refl _ _) _) _)).mono ?_;rintro e w1 ⟨rfl,rfl⟩;go_wp2_with fail;refine (HG.out _ (balloc (balloc (Below.refl _ _) _) _)).mono ?_;rintro e w1 ⟨rfl,hb1⟩;have hb2:=bnext (balloc (balloc (Below.refl w.heap.size w) _) _) hb1;have hR:Blk w1 (w.heap.size+1) #[.int .i64 0,.int .i64 0,.int .i64 0,.int .i64 0,.int .i64 0,.int .i64 0,.int .i64 0,.int .i64 0,.int .i64 0,.int .i64 0,.string ⟨#[]⟩,.slice none 0 0] 49:=by
  have:=((Blk.new (w.alloc (.cells #[.int .i64 c.u,.int .i64 c.g] 67)) #[.int .i64 0,.int .i64 0,.int .i64 0,.int .i64 0,.int .i64 0,.int .i64 0,.int .i64 0,.int .i64 0,.int .i64 0,.int .i64 0,.string ⟨#[]⟩,.slice none 0 0] 49).keep hb1)
  rwa [World.size_alloc] at this
 have hCr:Blk w1 w.heap.size #[.int .i64 c.u,.int .i64 c.g] 67:=((Blk.new w #[.int .i64 c.u,.int .i64 c.g] 67).old (.cells #[.int .i64 0,.int .i64 0,.int .i64 0,.int .i64 0,.int .i64 0,.int .i64 0,.int .i64 0,.int .i64 0,.int .i64 0,.int .i64 0,.string ⟨#[]⟩,.slice none 0 0] 49)).keep hb1;have hRX:=hR.old (.cells #[.int .i64 d.no,.int .i64 d.dev,.int .i64 d.kind,.int .i64 d.mode,.int .i64 d.uid,.int .i64 d.gid,.int .i64 d.mtime,.int .i64 d.ctime,.int .i64 d.links,.int .i64 d.up,.string d.data,.slice ea el ec] 49);have hCX:=hCr.old (.cells #[.int .i64 d.no,.int .i64 d.dev,.int .i64 d.kind,.int .i64 d.mode,.int .i64 d.uid,.int .i64 d.gid,.int .i64 d.mtime,.int .i64 d.ctime,.int .i64 d.links,.int .i64 d.up,.string d.data,.slice ea el ec] 49);have hDX:=Blk.new w1 #[.int .i64 d.no,.int .i64 d.dev,.int .i64 d.kind,.int .i64 d.mode,.int .i64 d.uid,.int .i64 d.gid,.int .i64 d.mtime,.int .i64 d.ctime,.int .i64 d.links,.int .i64 d.up,.string d.data,.slice ea el ec] 49;have hbX:=balloc hb2 (.cells #[.int .i64 d.no,.int .i64 d.dev,.int .i64 d.kind,.int .i64 d.mode,.int .i64 d.uid,.int .i64 d.gid,.int .i64 d.mtime,.int .i64 d.ctime,.int .i64 d.links,.int .i64 d.up,.string d.data,.slice ea el ec] 49);clear hR hCr hb1 hb2 pc;go_upto_region 4 with fail;generalize w1.alloc (.cells #[.int .i64 d.no,.int .i64 d.dev,.int .i64 d.kind,.int .i64 d.mode,.int .i64 d.uid,.int .i64 d.gid,.int .i64 d.mtime,.int .i64 d.ctime,.int .i64 d.links,.int .i64 d.up,.string d.data,.slice ea el ec] 49)=X at hRX hCX hDX hbX ⊢;have HRX:=Lib.hid hRX;have HBX:=Lib.hid hbX;have HDX:=Lib.hid hDX;have HCX:=Lib.hid hCX;obtain⟨rc,rf,rz⟩:=hRX.facts;obtain⟨dc,df,dz⟩:=hDX.facts;obtain⟨cc,-,-⟩:=hCX.facts;clear hRX hbX hDX hCX;go_wp2_with fail;refine (HNd.out _).mono ?_;rintro e w5 ⟨rfl,hb5⟩;have hRX5:=HRX.out.keep hb5;have hDX5:=HDX.out.keep hb5;have hBX5:=HBX.out.trans (hb5.mono HBX.out.size);have HRX5:=Lib.hid hRX5;have HBX5:=Lib.hid hBX5;clear rc rf rz dc df dz cc;obtain⟨rc,rf,rz⟩:=hRX5.facts;obtain⟨dc,-,-⟩:=hDX5.facts;clear hRX5 hBX5 hb5 hDX5
 cases my
 ·go_wp2_with fail;exact bodyPost_ret (own_results (a:=an0) HRX5.out.set12 rfl rfl) rfl ⟨rfl,below_set12 HBX5.out (Nat.le_succ _)⟩
 ·go_wp2_with fail;exact bodyPost_ret (own_results (a:=d) (ea:=ea) (el:=el) (ec:=ec) HRX5.out.set12 rfl rfl) rfl ⟨⟨ea,el,ec,rfl,HE.out⟩,below_set12 HBX5.out (Nat.le_succ _)⟩
theorem own_any (h:WdAt w pw R S) {N:Nat} (hk:FsOk S N) (c:Cr) (no:Int) :
  Calls Tryz.prog 232 #[.pointer (some ⟨pw,0,none⟩),.agg #[.int .i64 c.u,.int .i64 c.g],.int .i64 no] w fun e w'=>((S.ownE c no≠0∧e=.returned (.tuple #[an0.v none 0 0,.int .i64 (S.ownE c no)]))∨(S.ownE c no=0∧∃ d ea el ec,S.get no=some d∧e=.returned (.tuple #[d.v ea el ec,.int .i64 0])∧EntsAt w ea el ec d.ents))∧Below w.heap.size w w':=by
 cases hg:S.get no with
 | none=>
  refine (own_none h hk c no hg).mono ?_;rintro e w1 ⟨rfl,hb⟩;have:S.ownE c no=5:=by unfold Fs.ownE;rw [hg]
  rw [this];exact⟨.inl ⟨by decide,rfl⟩,hb⟩
 | some d=>
  refine (own_some h hk c no d hg).mono ?_;rintro e w1 ⟨⟨h1,rfl⟩|⟨h1,ea,el,ec,h2,h3⟩,hb⟩
  ·have:S.ownE c no=4:=by unfold Fs.ownE;rw [hg];simp only;rw [if_pos h1]
   rw [this];exact⟨.inl ⟨by decide,rfl⟩,hb⟩
  ·have:S.ownE c no=0:=by unfold Fs.ownE;rw [hg];simp only;rw [if_neg (by simp [h1])]
   rw [this];exact⟨.inr ⟨rfl,d,ea,el,ec,rfl,h2,h3⟩,hb⟩
end
end
section
open Go.RowKit
section
variable {w w':World} {pw:Nat} {R:Rp} {S:Fs}
theorem ownE_yes {S:Fs} {c:Cr} {no:Int} {d:An} (h:S.ownE c no=0) (hg:S.get no=some d):ownsB c d=true:=by
 unfold Fs.ownE at h;rw [hg] at h;simp only at h
 cases ho:ownsB c d with
 | true=>rfl
 | false=>rw [ho] at h;simp at h
theorem chmod_no {S:Fs} {c:Cr} {now no m:Int} (h:S.ownE c no≠0):S.chmod c now no m=(S,S.ownE c no):=by
 unfold Fs.chmod Fs.ownE at *
 cases hg:S.get no with
 | none=>rfl
 | some d=>
  simp only [hg] at h ⊢
  cases ho:ownsB c d with
  | true=>rw [ho] at h;simp at h
  | false=>rfl
theorem chown_no {S:Fs} {c:Cr} {now no u g:Int} (h:S.ownE c no≠0):S.chown c now no u g=(S,S.ownE c no):=by
 unfold Fs.chown Fs.ownE at *
 cases hg:S.get no with
 | none=>rfl
 | some d=>
  simp only [hg] at h ⊢
  cases ho:ownsB c d with
  | true=>rw [ho] at h;simp at h
  | false=>rfl
theorem utime_no {S:Fs} {c:Cr} {now no t:Int} (h:S.ownE c no≠0):S.utime c now no t=(S,S.ownE c no):=by
 unfold Fs.utime Fs.ownE at *
 cases hg:S.get no with
 | none=>rfl
 | some d=>
  simp only [hg] at h ⊢
  cases ho:ownsB c d with
  | true=>rw [ho] at h;simp at h
  | false=>rfl
theorem mode_any (h:WdAt w pw R S) {N:Nat} (hk:FsOk S N) (c:Cr) (now no mode:Int) :
  Calls Tryz.prog 167 #[.pointer (some ⟨pw,0,none⟩),.agg #[.int .i64 c.u,.int .i64 c.g],.int .i64 now,.int .i64 no,.int .i64 mode] w fun e w'=>
   e=.returned (.int .i64 (S.chmod c now no mode).2)∧∃ R',WdAt w' pw R' (S.chmod c now no mode).1∧Stp (R.F pw) (R'.F pw) w w':=by
 have HO:=Lib.hid (fun w1 (hb1:Below w.heap.size w w1)=>own_any (h.keep hb1) hk c no);have HW:=Lib.hid h;have mixed:Tryz.prog.follows .mixedOrders=true:=by kernel_rfl
 obtain⟨pc,-,pz⟩:=h.blk.facts;clear h hk;go_enter Tryz.func167,Tryz.ntmps167;go_wp2_with fail;refine (HO.out _ (balloc (Below.refl _ _) _)).mono ?_;clear HO;rintro e w1 ⟨⟨h0,rfl⟩|⟨h0,d,ea,el,ec,hg,rfl,he⟩,hb1⟩
 ·have hbX:=bnext (balloc (Below.refl w.heap.size w) _) hb1;have HB:=Lib.hid hbX;have HC:=Lib.hid (chmod_no (now:=now) (m:=mode) h0);have hz:(S.ownE c no == 0)=false:=by simpa using h0
  generalize S.ownE c no=pe at HC hz ⊢;unfold An.v an0;clear h0 hb1 hbX pc;go_wp2_with fail;go_ret;rw [HC.out];exact⟨rfl,R,HW.out.keep (balloc HB.out _),Stp.of_below (balloc HB.out _)⟩
 ·have hbX:=balloc hb1 (.cells #[.int .i64 d.no,.int .i64 d.dev,.int .i64 d.kind,.int .i64 d.mode,.int .i64 d.uid,.int .i64 d.gid,.int .i64 d.mtime,.int .i64 d.ctime,.int .i64 d.links,.int .i64 d.up,.string d.data,.slice ea el ec] 49);have hCX:=((Blk.new w #[.int .i64 c.u,.int .i64 c.g] 67).keep hb1).old (.cells #[.int .i64 d.no,.int .i64 d.dev,.int .i64 d.kind,.int .i64 d.mode,.int .i64 d.uid,.int .i64 d.gid,.int .i64 d.mtime,.int .i64 d.ctime,.int .i64 d.links,.int .i64 d.up,.string d.data,.slice ea el ec] 49);have hDX:=Blk.new w1 #[.int .i64 d.no,.int .i64 d.dev,.int .i64 d.kind,.int .i64 d.mode,.int .i64 d.uid,.int .i64 d.gid,.int .i64 d.mtime,.int .i64 d.ctime,.int .i64 d.links,.int .i64 d.up,.string d.data,.slice ea el ec] 49;have hsz:=hb1.size;have HOw:=Lib.hid (ownE_yes h0 hg);have HSet:=Lib.hid (fun w1 (hb1:Below (w.alloc (.cells #[.int .i64 c.u,.int .i64 c.g] 67)).heap.size (w.alloc (.cells #[.int .i64 c.u,.int .i64 c.g] 67)) w1)=>(HW.out.keep (bnext (balloc (Below.refl _ _) _) hb1)).setN {d with mode:=mode,ctime:=now} (he.keep hb1) (b:=d) (by rw [show ({d with mode:=mode,ctime:=now}:An).no=d.no from rfl,an_no hg];exact hg));have HG:=Lib.hid hg;unfold An.v at HSet;unfold An.v;clear h0 hb1 he hg;go_upto_region 2 with fail;generalize w1.alloc (.cells #[.int .i64 d.no,.int .i64 d.dev,.int .i64 d.kind,.int .i64 d.mode,.int .i64 d.uid,.int .i64 d.gid,.int .i64 d.mtime,.int .i64 d.ctime,.int .i64 d.links,.int .i64 d.up,.string d.data,.slice ea el ec] 49)=X at hbX hCX hDX ⊢;obtain⟨dc,df,dz⟩:=hDX.facts;obtain⟨cc,-,-⟩:=hCX.facts;have HCX:=Lib.hid hCX;have HDX:=Lib.hid hDX;have HBX:=Lib.hid hbX;have HPC:=Lib.hid pc;have HPZ:=Lib.hid pz;clear hCX hDX hbX pc pz;by_cases h1:mode<0
  ·skip
   have HE:=Lib.hid (show S.chmod c now no mode=(S,1) by unfold Fs.chmod;rw [HG.out];simp only;rw [if_neg (by rw [HOw.out];decide),if_pos (.inl h1)]);go_wp2_with fail;go_ret;rw [HE.out];exact⟨rfl,R,HW.out.keep (bnext (balloc (Below.refl _ _) _) HBX.out),Stp.of_below (bnext (balloc (Below.refl _ _) _) HBX.out)⟩
  by_cases h2:1023<mode
  ·skip
   have HE:=Lib.hid (show S.chmod c now no mode=(S,1) by unfold Fs.chmod;rw [HG.out];simp only;rw [if_neg (by rw [HOw.out];decide),if_pos (.inr (.inl h2))]);go_wp2_with fail;go_ret;rw [HE.out];exact⟨rfl,R,HW.out.keep (bnext (balloc (Below.refl _ _) _) HBX.out),Stp.of_below (bnext (balloc (Below.refl _ _) _) HBX.out)⟩
  by_cases h3:d.kind=3
  ·have h3':(d.kind == 3)=true:=by simpa using h3
   have HE:=Lib.hid (show S.chmod c now no mode=(S,1) by unfold Fs.chmod;rw [HG.out];simp only;rw [if_neg (by rw [HOw.out];decide),if_pos (.inr (.inr h3))]);clear h3;go_wp2_with fail;go_ret;rw [HE.out];exact⟨rfl,R,HW.out.keep (bnext (balloc (Below.refl _ _) _) HBX.out),Stp.of_below (bnext (balloc (Below.refl _ _) _) HBX.out)⟩
  have h3':(d.kind == 3)=false:=by simpa using h3
  have HE:=Lib.hid (show S.chmod c now no mode=(S.set {d with mode:=mode,ctime:=now},0) by unfold Fs.chmod;rw [HG.out];simp only;rw [if_neg (by rw [HOw.out];decide),if_neg (by omega)]);go_wp2_with fail;have hDY:=((HDX.out.set 3 (.int .i64 mode)).set 7 (.int .i64 now));have hbY:Below (w.alloc (.cells #[.int .i64 c.u,.int .i64 c.g] 67)).heap.size (w.alloc (.cells #[.int .i64 c.u,.int .i64 c.g] 67)) ((X.setCell ⟨w1.heap.size,3,none⟩ (.int .i64 mode)).setCell ⟨w1.heap.size,7,none⟩ (.int .i64 now)):=((HBX.out.setCell hsz _).setCell hsz _);generalize ((X.setCell ⟨w1.heap.size,3,none⟩ (.int .i64 mode)).setCell ⟨w1.heap.size,7,none⟩ (.int .i64 now))=Y at hDY hbY ⊢;obtain⟨q0,q1,q2,q3,q4,q5,q6,q7,q8,q9,q10,q11⟩:=Blk.cells12 (x0:=.int .i64 d.no) hDY;have pc0:Y.cell? ⟨pw,0,none⟩=some (.pointer (some ⟨R.pt,0,none⟩)):=((bnext (balloc (Below.refl w.heap.size w) (.cells #[.int .i64 c.u,.int .i64 c.g] 67)) hbY).cell (p:=⟨pw,0,none⟩) HPZ.out).trans (HPC.out 0);have HS:=Lib.hid (HSet.out _ hbY.drew);have HY:=Lib.hid hbY;clear hDY hbY dc df dz
  try clear cc
  refine wp_region_lex 5 mixed (by kernel_rfl) then_panic ?_;simp only [List.take_succ_cons,List.take_zero,List.drop_succ_cons,List.drop_zero]
  repeat still_step
  refine wpStill_nil ?_;go_wp2_with fail;refine HS.out.mono ?_;rintro e w5 ⟨rfl,R',hR1,hR2,-,-⟩;have HR:=Lib.hid (And.intro hR1 hR2);clear hR1 hR2;go_wp2_with fail;go_ret;rw [HE.out];exact⟨rfl,R',HR.out.1,(Stp.of_below (bnext (balloc (Below.refl _ _) _) HY.out.drew)).trans HR.out.2⟩
theorem owner_any (h:WdAt w pw R S) {N:Nat} (hk:FsOk S N) (c:Cr) (now no u g:Int) :
  Calls Tryz.prog 166 #[.pointer (some ⟨pw,0,none⟩),.agg #[.int .i64 c.u,.int .i64 c.g],.int .i64 now,.int .i64 no,.int .i64 u,.int .i64 g] w fun e w'=>
   e=.returned (.int .i64 (S.chown c now no u g).2)∧∃ R',WdAt w' pw R' (S.chown c now no u g).1∧Stp (R.F pw) (R'.F pw) w w':=by
 have HO:=Lib.hid (fun w1 (hb1:Below w.heap.size w w1)=>own_any (h.keep hb1) hk c no);have HW:=Lib.hid h;have mixed:Tryz.prog.follows .mixedOrders=true:=by kernel_rfl
 obtain⟨pc,-,pz⟩:=h.blk.facts;clear h hk;go_enter Tryz.func166,Tryz.ntmps166;go_wp2_with fail;refine (HO.out _ (balloc (Below.refl _ _) _)).mono ?_;clear HO;rintro e w1 ⟨⟨h0,rfl⟩|⟨h0,d,ea,el,ec,hg,rfl,he⟩,hb1⟩
 ·have hbX:=bnext (balloc (Below.refl w.heap.size w) _) hb1;have HB:=Lib.hid hbX;have HC:=Lib.hid (chown_no (now:=now) (u:=u) (g:=g) h0);have hz:(S.ownE c no == 0)=false:=by simpa using h0
  generalize S.ownE c no=pe at HC hz ⊢;unfold An.v an0;clear h0 hb1 hbX pc;go_wp2_with fail;go_ret;rw [HC.out];exact⟨rfl,R,HW.out.keep (balloc HB.out _),Stp.of_below (balloc HB.out _)⟩
 ·have hbX:=balloc hb1 (.cells #[.int .i64 d.no,.int .i64 d.dev,.int .i64 d.kind,.int .i64 d.mode,.int .i64 d.uid,.int .i64 d.gid,.int .i64 d.mtime,.int .i64 d.ctime,.int .i64 d.links,.int .i64 d.up,.string d.data,.slice ea el ec] 49);have hCX:=((Blk.new w #[.int .i64 c.u,.int .i64 c.g] 67).keep hb1).old (.cells #[.int .i64 d.no,.int .i64 d.dev,.int .i64 d.kind,.int .i64 d.mode,.int .i64 d.uid,.int .i64 d.gid,.int .i64 d.mtime,.int .i64 d.ctime,.int .i64 d.links,.int .i64 d.up,.string d.data,.slice ea el ec] 49);have hDX:=Blk.new w1 #[.int .i64 d.no,.int .i64 d.dev,.int .i64 d.kind,.int .i64 d.mode,.int .i64 d.uid,.int .i64 d.gid,.int .i64 d.mtime,.int .i64 d.ctime,.int .i64 d.links,.int .i64 d.up,.string d.data,.slice ea el ec] 49;have hsz:=hb1.size;have HOw:=Lib.hid (ownE_yes h0 hg);have HSet:=Lib.hid (fun w1 (hb1:Below (w.alloc (.cells #[.int .i64 c.u,.int .i64 c.g] 67)).heap.size (w.alloc (.cells #[.int .i64 c.u,.int .i64 c.g] 67)) w1)=>(HW.out.keep (bnext (balloc (Below.refl _ _) _) hb1)).setN {d with uid:=u,gid:=g,ctime:=now} (he.keep hb1) (b:=d) (by rw [show ({d with uid:=u,gid:=g,ctime:=now}:An).no=d.no from rfl,an_no hg];exact hg));have HG:=Lib.hid hg;unfold An.v at HSet;unfold An.v;clear h0 hb1 he hg;go_upto_region 2 with fail;generalize w1.alloc (.cells #[.int .i64 d.no,.int .i64 d.dev,.int .i64 d.kind,.int .i64 d.mode,.int .i64 d.uid,.int .i64 d.gid,.int .i64 d.mtime,.int .i64 d.ctime,.int .i64 d.links,.int .i64 d.up,.string d.data,.slice ea el ec] 49)=X at hbX hCX hDX ⊢;obtain⟨dc,df,dz⟩:=hDX.facts;obtain⟨cc,-,-⟩:=hCX.facts;have HCX:=Lib.hid hCX;have HDX:=Lib.hid hDX;have HBX:=Lib.hid hbX;have HPC:=Lib.hid pc;have HPZ:=Lib.hid pz;clear hCX hDX hbX pc pz;by_cases h1:c.u≠0
  ·have h1':(c.u != 0)=true:=by simpa using h1
   have HE:=Lib.hid (show S.chown c now no u g=(S,4) by unfold Fs.chown;rw [HG.out];simp only;rw [if_neg (by rw [HOw.out];decide),if_pos h1]);clear h1;go_wp2_with fail;go_ret;rw [HE.out];exact⟨rfl,R,HW.out.keep (bnext (balloc (Below.refl _ _) _) HBX.out),Stp.of_below (bnext (balloc (Below.refl _ _) _) HBX.out)⟩
  have h1:c.u=0:=Decidable.not_not.1 h1;have h1':(c.u != 0)=false:=by simpa using h1
  have HF:=Lib.hid (fun w=>pfine_any u g w);by_cases h2:idB u g=false
  ·have h2':=h2;have HE:=Lib.hid (show S.chown c now no u g=(S,1) by unfold Fs.chown;rw [HG.out];simp only;rw [if_neg (by rw [HOw.out];decide),if_neg (by simp [h1]),if_pos h2']);rw [h2'] at HF;clear h1 h2 h2';go_wp2_with fail;refine (HF.out _).mono ?_;rintro e w5 ⟨rfl,hb5⟩;have HB5:=Lib.hid (HBX.out.trans (hb5.mono HBX.out.size));clear hb5;go_wp2_with fail;go_ret;rw [HE.out];exact⟨rfl,R,HW.out.keep (bnext (balloc (Below.refl _ _) _) HB5.out),Stp.of_below (bnext (balloc (Below.refl _ _) _) HB5.out)⟩
  have HE:=Lib.hid (show S.chown c now no u g=(S.set {d with uid:=u,gid:=g,ctime:=now},0) by unfold Fs.chown;rw [HG.out];simp only;rw [if_neg (by rw [HOw.out];decide),if_neg (by simp [h1]),if_neg h2]);have h2:idB u g=true:=by simpa using h2
  rw [h2] at HF;clear h1 h2;go_wp2_with fail;refine (HF.out _).mono ?_;rintro e w5 ⟨rfl,hb5⟩;have HB5:=Lib.hid (HBX.out.trans (hb5.mono HBX.out.size));have HD5:=Lib.hid (HDX.out.keep hb5);have hD5:=HD5.out;clear dc df dz cc hb5;obtain⟨dc,df,dz⟩:=hD5.facts;clear hD5;go_wp2_with fail;have hDY:=(((HD5.out.set 4 (.int .i64 u)).set 5 (.int .i64 g)).set 7 (.int .i64 now));have hbY:Below (w.alloc (.cells #[.int .i64 c.u,.int .i64 c.g] 67)).heap.size (w.alloc (.cells #[.int .i64 c.u,.int .i64 c.g] 67)) (((w5.setCell ⟨w1.heap.size,4,none⟩ (.int .i64 u)).setCell ⟨w1.heap.size,5,none⟩ (.int .i64 g)).setCell ⟨w1.heap.size,7,none⟩ (.int .i64 now)):=(((HB5.out.setCell hsz _).setCell hsz _).setCell hsz _);generalize (((w5.setCell ⟨w1.heap.size,4,none⟩ (.int .i64 u)).setCell ⟨w1.heap.size,5,none⟩ (.int .i64 g)).setCell ⟨w1.heap.size,7,none⟩ (.int .i64 now))=Y at hDY hbY ⊢;obtain⟨q0,q1,q2,q3,q4,q5,q6,q7,q8,q9,q10,q11⟩:=Blk.cells12 (x0:=.int .i64 d.no) hDY;have pc0:Y.cell? ⟨pw,0,none⟩=some (.pointer (some ⟨R.pt,0,none⟩)):=((bnext (balloc (Below.refl w.heap.size w) (.cells #[.int .i64 c.u,.int .i64 c.g] 67)) hbY).cell (p:=⟨pw,0,none⟩) HPZ.out).trans (HPC.out 0);have HS:=Lib.hid (HSet.out _ hbY.drew);have HY:=Lib.hid hbY;clear hDY hbY dc df dz
  try clear cc
  refine wp_region_lex 5 mixed (by kernel_rfl) then_panic ?_;simp only [List.take_succ_cons,List.take_zero,List.drop_succ_cons,List.drop_zero]
  repeat still_step
  refine wpStill_nil ?_;go_wp2_with fail;refine HS.out.mono ?_;rintro e w5 ⟨rfl,R',hR1,hR2,-,-⟩;have HR:=Lib.hid (And.intro hR1 hR2);clear hR1 hR2;go_wp2_with fail;go_ret;rw [HE.out];exact⟨rfl,R',HR.out.1,(Stp.of_below (bnext (balloc (Below.refl _ _) _) HY.out.drew)).trans HR.out.2⟩
theorem time_any (h:WdAt w pw R S) {N:Nat} (hk:FsOk S N) (c:Cr) (now no t:Int) :
  Calls Tryz.prog 168 #[.pointer (some ⟨pw,0,none⟩),.agg #[.int .i64 c.u,.int .i64 c.g],.int .i64 now,.int .i64 no,.int .i64 t] w fun e w'=>
   e=.returned (.int .i64 (S.utime c now no t).2)∧∃ R',WdAt w' pw R' (S.utime c now no t).1∧Stp (R.F pw) (R'.F pw) w w':=by
 have HO:=Lib.hid (fun w1 (hb1:Below w.heap.size w w1)=>own_any (h.keep hb1) hk c no);have HW:=Lib.hid h;have mixed:Tryz.prog.follows .mixedOrders=true:=by kernel_rfl
 obtain⟨pc,-,pz⟩:=h.blk.facts;clear h hk;go_enter Tryz.func168,Tryz.ntmps168;go_wp2_with fail;refine (HO.out _ (balloc (Below.refl _ _) _)).mono ?_;clear HO;rintro e w1 ⟨⟨h0,rfl⟩|⟨h0,d,ea,el,ec,hg,rfl,he⟩,hb1⟩
 ·have hbX:=bnext (balloc (Below.refl w.heap.size w) _) hb1;have HB:=Lib.hid hbX;have HC:=Lib.hid (utime_no (now:=now) (t:=t) h0);have hz:(S.ownE c no == 0)=false:=by simpa using h0
  generalize S.ownE c no=pe at HC hz ⊢;unfold An.v an0;clear h0 hb1 hbX pc;go_wp2_with fail;go_ret;rw [HC.out];exact⟨rfl,R,HW.out.keep (balloc HB.out _),Stp.of_below (balloc HB.out _)⟩
 ·have hbX:=balloc hb1 (.cells #[.int .i64 d.no,.int .i64 d.dev,.int .i64 d.kind,.int .i64 d.mode,.int .i64 d.uid,.int .i64 d.gid,.int .i64 d.mtime,.int .i64 d.ctime,.int .i64 d.links,.int .i64 d.up,.string d.data,.slice ea el ec] 49);have hCX:=((Blk.new w #[.int .i64 c.u,.int .i64 c.g] 67).keep hb1).old (.cells #[.int .i64 d.no,.int .i64 d.dev,.int .i64 d.kind,.int .i64 d.mode,.int .i64 d.uid,.int .i64 d.gid,.int .i64 d.mtime,.int .i64 d.ctime,.int .i64 d.links,.int .i64 d.up,.string d.data,.slice ea el ec] 49);have hDX:=Blk.new w1 #[.int .i64 d.no,.int .i64 d.dev,.int .i64 d.kind,.int .i64 d.mode,.int .i64 d.uid,.int .i64 d.gid,.int .i64 d.mtime,.int .i64 d.ctime,.int .i64 d.links,.int .i64 d.up,.string d.data,.slice ea el ec] 49;have hsz:=hb1.size;have HOw:=Lib.hid (ownE_yes h0 hg);have HSet:=Lib.hid (fun w1 (hb1:Below (w.alloc (.cells #[.int .i64 c.u,.int .i64 c.g] 67)).heap.size (w.alloc (.cells #[.int .i64 c.u,.int .i64 c.g] 67)) w1)=>(HW.out.keep (bnext (balloc (Below.refl _ _) _) hb1)).setN {d with mtime:=t,ctime:=now} (he.keep hb1) (b:=d) (by rw [show ({d with mtime:=t,ctime:=now}:An).no=d.no from rfl,an_no hg];exact hg));have HG:=Lib.hid hg;unfold An.v at HSet;unfold An.v;clear h0 hb1 he hg;go_upto_region 2 with fail;generalize w1.alloc (.cells #[.int .i64 d.no,.int .i64 d.dev,.int .i64 d.kind,.int .i64 d.mode,.int .i64 d.uid,.int .i64 d.gid,.int .i64 d.mtime,.int .i64 d.ctime,.int .i64 d.links,.int .i64 d.up,.string d.data,.slice ea el ec] 49)=X at hbX hCX hDX ⊢;obtain⟨dc,df,dz⟩:=hDX.facts;obtain⟨cc,-,-⟩:=hCX.facts;have HCX:=Lib.hid hCX;have HDX:=Lib.hid hDX;have HBX:=Lib.hid hbX;have HPC:=Lib.hid pc;have HPZ:=Lib.hid pz;clear hCX hDX hbX pc pz;by_cases h1:t<0
  ·skip
   have HE:=Lib.hid (show S.utime c now no t=(S,1) by unfold Fs.utime;rw [HG.out];simp only;rw [if_neg (by rw [HOw.out];decide),if_pos (.inl h1)]);go_wp2_with fail;go_ret;rw [HE.out];exact⟨rfl,R,HW.out.keep (bnext (balloc (Below.refl _ _) _) HBX.out),Stp.of_below (bnext (balloc (Below.refl _ _) _) HBX.out)⟩
  by_cases h2:253402300799<t
  ·skip
   have HE:=Lib.hid (show S.utime c now no t=(S,1) by unfold Fs.utime;rw [HG.out];simp only;rw [if_neg (by rw [HOw.out];decide),if_pos (.inr h2)]);go_wp2_with fail;go_ret;rw [HE.out];exact⟨rfl,R,HW.out.keep (bnext (balloc (Below.refl _ _) _) HBX.out),Stp.of_below (bnext (balloc (Below.refl _ _) _) HBX.out)⟩
  have HE:=Lib.hid (show S.utime c now no t=(S.set {d with mtime:=t,ctime:=now},0) by unfold Fs.utime;rw [HG.out];simp only;rw [if_neg (by rw [HOw.out];decide),if_neg (by omega)]);go_wp2_with fail;have hDY:=((HDX.out.set 6 (.int .i64 t)).set 7 (.int .i64 now));have hbY:Below (w.alloc (.cells #[.int .i64 c.u,.int .i64 c.g] 67)).heap.size (w.alloc (.cells #[.int .i64 c.u,.int .i64 c.g] 67)) ((X.setCell ⟨w1.heap.size,6,none⟩ (.int .i64 t)).setCell ⟨w1.heap.size,7,none⟩ (.int .i64 now)):=((HBX.out.setCell hsz _).setCell hsz _);generalize ((X.setCell ⟨w1.heap.size,6,none⟩ (.int .i64 t)).setCell ⟨w1.heap.size,7,none⟩ (.int .i64 now))=Y at hDY hbY ⊢;obtain⟨q0,q1,q2,q3,q4,q5,q6,q7,q8,q9,q10,q11⟩:=Blk.cells12 (x0:=.int .i64 d.no) hDY;have pc0:Y.cell? ⟨pw,0,none⟩=some (.pointer (some ⟨R.pt,0,none⟩)):=((bnext (balloc (Below.refl w.heap.size w) (.cells #[.int .i64 c.u,.int .i64 c.g] 67)) hbY).cell (p:=⟨pw,0,none⟩) HPZ.out).trans (HPC.out 0);have HS:=Lib.hid (HSet.out _ hbY.drew);have HY:=Lib.hid hbY;clear hDY hbY dc df dz
  try clear cc
  refine wp_region_lex 5 mixed (by kernel_rfl) then_panic ?_;simp only [List.take_succ_cons,List.take_zero,List.drop_succ_cons,List.drop_zero]
  repeat still_step
  refine wpStill_nil ?_;go_wp2_with fail;refine HS.out.mono ?_;rintro e w5 ⟨rfl,R',hR1,hR2,-,-⟩;have HR:=Lib.hid (And.intro hR1 hR2);clear hR1 hR2;go_wp2_with fail;go_ret;rw [HE.out];exact⟨rfl,R',HR.out.1,(Stp.of_below (bnext (balloc (Below.refl _ _) _) HY.out.drew)).trans HR.out.2⟩
end
end
end Go.Proofs.YtihdbncoijhihaaGreat
