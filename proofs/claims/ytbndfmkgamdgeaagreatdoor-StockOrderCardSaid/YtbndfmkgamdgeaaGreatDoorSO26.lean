import Derived.Test.YtbndfmkgamdgeaaGreatDoorSO1
import Derived.Test.YtbndfmkgamdgeaaGreatDoorSO2
import Derived.Test.YtbndfmkgamdgeaaGreatDoorSO5
import Derived.Test.YtbndfmkgamdgeaaGreatDoorSO6
import Derived.Test.YtbndfmkgamdgeaaGreatDoorSO7
import Derived.Test.YtbndfmkgamdgeaaGreatDoorSO8
import Derived.Test.YtbndfmkgamdgeaaGreatDoorSO9
import Derived.Test.YtbndfmkgamdgeaaGreatDoorSO10
import Derived.Test.YtbndfmkgamdgeaaGreatDoorSO11
import Derived.Test.YtbndfmkgamdgeaaGreatDoorSO14
import Derived.Test.YtbndfmkgamdgeaaGreatDoorSO15
import Derived.Test.YtbndfmkgamdgeaaGreatDoorSO17
import Derived.Test.YtbndfmkgamdgeaaGreatDoorSO18
set_option linter.unusedVariables false
set_option linter.unusedSimpArgs false
set_option maxRecDepth 100000
set_option maxHeartbeats 16000000
namespace Go.Proofs.YtbndfmkgamdgeaaGreatDoor
section
open Go.RowKit
section
variable {w w':World} {pw:Nat} {R:Rp} {S:Fs}
theorem hard_no {S:Fs} {c:Cr} {now no dir:Int} {s:ByteArray} (h:S.placeE c dir s≠0):S.hard c now no dir s=(S,S.placeE c dir s):=by unfold Fs.hard;rw [if_pos h]
theorem hard_gone {S:Fs} {c:Cr} {now no dir:Int} {s:ByteArray} {d:An} (h:S.placeE c dir s=0) (hg:S.get dir=some d) (hn:S.get no=none):S.hard c now no dir s=(S,5):=by
 unfold Fs.hard;rw [if_neg (by simp [h]),hg,hn]
theorem hard_eq {S:Fs} {c:Cr} {now no dir:Int} {s:ByteArray} {d n:An} (h:S.placeE c dir s=0) (hg:S.get dir=some d) (hn:S.get no=some n):S.hard c now no dir s =
  if n.kind=1 then (S,4) else if entFind d.ents s≠0 then (S,7) else if n.dev≠d.dev then (S,11) else if 1000≤n.links then (S,18)
  else ((S.set {n with links:=n.links+1,ctime:=now}).touch now dir (entPut d.ents s no),0):=by
 unfold Fs.hard;rw [if_neg (by simp [h]),hg,hn]
theorem place_dir {S:Fs} {c:Cr} {dir:Int} {s:ByteArray} {d:An} (h:S.placeE c dir s=0) (hg:S.get dir=some d):d.kind=1:=by
 unfold Fs.placeE at h;rw [hg] at h;simp only at h;by_cases hk:d.kind=1
 ·exact hk
 ·rw [if_pos hk] at h;cases h
theorem hard_any (h:WdAt w pw R S) {N:Nat} (hk:FsOk S N) (hN:N≤999999) (c:Cr) (now no dir:Int) (s:ByteArray) (hs:s.size≤9223372036854775807) :
  Calls Tryz.prog 154 #[.pointer (some ⟨pw,0,none⟩),.agg #[.int .i64 c.u,.int .i64 c.g],.int .i64 now,.int .i64 no,.int .i64 dir,.string s] w fun e w'=>
   e=.returned (.int .i64 (S.hard c now no dir s).2)∧∃ R',WdAt w' pw R' (S.hard c now no dir s).1∧Stp (R.F pw) (R'.F pw) w w':=by
 have HP:=Lib.hid (fun w1 (hb1:Below w.heap.size w w1)=>place_any (h.keep hb1) hk c dir s hs);have HW:=Lib.hid h;have HK:=Lib.hid hk;have mixed:Tryz.prog.follows .mixedOrders=true:=by kernel_rfl
 obtain⟨pc,-,pz⟩:=h.blk.facts;have HPC:=Lib.hid (fun w1 (hb1:Below w.heap.size w w1)=>show w1.cell? ⟨pw,0,none⟩=some (.pointer (some ⟨R.pt,0,none⟩)) from (hb1.cell (p:=⟨pw,0,none⟩) pz).trans (pc 0));clear h hk;go_enter Tryz.func154,Tryz.ntmps154;go_wp2_with fail;refine (HP.out _ (balloc (Below.refl _ _) _)).mono ?_;clear HP pc pz;rintro e w1 ⟨⟨h0,rfl⟩|⟨h0,d,ea,el,ec,hg,rfl,he⟩,hb1⟩
 ·have hbX:=bnext (balloc (Below.refl w.heap.size w) _) hb1;have HB:=Lib.hid hbX;have HC:=Lib.hid (hard_no (now:=now) (no:=no) h0);have hz:(S.placeE c dir s == 0)=false:=by simpa using h0
  generalize S.placeE c dir s=pe at HC hz ⊢;unfold An.v an0;clear h0 hb1 hbX;go_wp2_with fail;go_ret;rw [HC.out];exact⟨rfl,R,HW.out.keep (balloc HB.out _),Stp.of_below (balloc HB.out _)⟩
 ·have hbX:=balloc hb1 (.cells #[.int .i64 d.no,.int .i64 d.dev,.int .i64 d.kind,.int .i64 d.mode,.int .i64 d.uid,.int .i64 d.gid,.int .i64 d.mtime,.int .i64 d.ctime,.int .i64 d.links,.int .i64 d.up,.string d.data,.slice ea el ec] 163);have hDX:=Blk.new w1 #[.int .i64 d.no,.int .i64 d.dev,.int .i64 d.kind,.int .i64 d.mode,.int .i64 d.uid,.int .i64 d.gid,.int .i64 d.mtime,.int .i64 d.ctime,.int .i64 d.links,.int .i64 d.up,.string d.data,.slice ea el ec] 163;have hsz1:=hb1.size;have HE:=Lib.hid he;have HG:=Lib.hid hg;have HKD:=Lib.hid (place_dir h0 hg);have H0:=Lib.hid h0;unfold An.v;clear h0 hb1 he hg;go_upto_region 2 with fail;generalize w1.alloc (.cells #[.int .i64 d.no,.int .i64 d.dev,.int .i64 d.kind,.int .i64 d.mode,.int .i64 d.uid,.int .i64 d.gid,.int .i64 d.mtime,.int .i64 d.ctime,.int .i64 d.links,.int .i64 d.up,.string d.data,.slice ea el ec] 163)=X at hbX hDX ⊢;have pcX:=HPC.out X (bnext (balloc (Below.refl _ _) _) hbX);have HBX:=Lib.hid hbX;have HDX:=Lib.hid hDX;have hsX:w1.heap.size<X.heap.size:=hDX.lt;clear hbX hDX
  cases hn:S.get no with
  | none=>
   have HG0:=Lib.hid (wget_no (HW.out.keep (bnext (balloc (Below.refl _ _) _) HBX.out)) hn);have HZ:=Lib.hid (hard_gone (now:=now) H0.out HG.out hn);unfold An.v an0 at HG0;clear hn;go_wp2_with fail;refine HG0.out.mono ?_;rintro e w2 ⟨rfl,hb2⟩;have HB:=Lib.hid (balloc (HBX.out.trans (hb2.mono HBX.out.size)) (.cells #[.int .i64 0,.int .i64 0,.int .i64 0,.int .i64 0,.int .i64 0,.int .i64 0,.int .i64 0,.int .i64 0,.int .i64 0,.int .i64 0,.string ByteArray.empty,.slice none 0 0] 163));clear hb2;go_wp2_with fail;go_ret;rw [HZ.out];exact⟨rfl,R,HW.out.keep (bnext (balloc (Below.refl _ _) _) HB.out),Stp.of_below (bnext (balloc (Below.refl _ _) _) HB.out)⟩
  | some n=>
   obtain⟨na,nl,nc,hne,hNG⟩:=wget_fix HW.out hn;have HNG:=Lib.hid (hNG X (bnext (balloc (Below.refl _ _) _) HBX.out));have HQ:=Lib.hid (hard_eq (now:=now) H0.out HG.out hn);have HHN:=Lib.hid hn;have HNE:=Lib.hid hne;unfold An.v at HNG;clear hn hNG hne;go_wp2_with fail;refine HNG.out.mono ?_;rintro e w2 ⟨rfl,hb2⟩;have hbY:=balloc (HBX.out.trans (hb2.mono HBX.out.size)) (.cells #[.int .i64 n.no,.int .i64 n.dev,.int .i64 n.kind,.int .i64 n.mode,.int .i64 n.uid,.int .i64 n.gid,.int .i64 n.mtime,.int .i64 n.ctime,.int .i64 n.links,.int .i64 n.up,.string n.data,.slice na nl nc] 163);have hDY:=(HDX.out.keep hb2).old (.cells #[.int .i64 n.no,.int .i64 n.dev,.int .i64 n.kind,.int .i64 n.mode,.int .i64 n.uid,.int .i64 n.gid,.int .i64 n.mtime,.int .i64 n.ctime,.int .i64 n.links,.int .i64 n.up,.string n.data,.slice na nl nc] 163);have hNY:=Blk.new w2 #[.int .i64 n.no,.int .i64 n.dev,.int .i64 n.kind,.int .i64 n.mode,.int .i64 n.uid,.int .i64 n.gid,.int .i64 n.mtime,.int .i64 n.ctime,.int .i64 n.links,.int .i64 n.up,.string n.data,.slice na nl nc] 163;have hsz2:(w.alloc (.cells #[.int .i64 c.u,.int .i64 c.g] 54)).heap.size≤w2.heap.size:=by have:=hb2.size;omega
   have hne:w2.heap.size≠w1.heap.size:=by have:=hb2.size;omega
   have hlk:=(HK.out.get HHN.out).1.links;clear hb2 pcX;go_upto_region 5 with fail;generalize w2.alloc (.cells #[.int .i64 n.no,.int .i64 n.dev,.int .i64 n.kind,.int .i64 n.mode,.int .i64 n.uid,.int .i64 n.gid,.int .i64 n.mtime,.int .i64 n.ctime,.int .i64 n.links,.int .i64 n.up,.string n.data,.slice na nl nc] 163)=Y at hbY hDY hNY ⊢;obtain⟨hdo,-,-,-⟩:=HK.out.get HG.out;have heY:=HE.out.keep hbY;have hfew:el≤1000000:=by rw [←HE.out.len];exact Nat.le_trans hdo.few (by omega)
   have HF:=Lib.hid (efind_any d.ents ea el ec s Y heY hdo.rise hfew);have HFew:=Lib.hid hfew;obtain⟨kc,kf,kz⟩:=hNY.facts;obtain⟨dc,df,dz⟩:=hDY.facts;have HBY:=Lib.hid hbY;have HDY:=Lib.hid hDY;have HNY:=Lib.hid hNY;clear hbY hDY hNY heY hdo hfew;by_cases h1:n.kind=1
   ·have h1':(n.kind == 1)=true:=by simpa using h1
    have HZ:=Lib.hid (HQ.out.trans (if_pos h1));clear h1;go_wp2_with fail;go_ret;rw [HZ.out];exact⟨rfl,R,HW.out.keep (bnext (balloc (Below.refl _ _) _) HBY.out),Stp.of_below (bnext (balloc (Below.refl _ _) _) HBY.out)⟩
   have h1':(n.kind == 1)=false:=by simpa using h1
   have HQ1:=Lib.hid (HQ.out.trans (if_neg h1));have HK1:=Lib.hid h1;clear h1 HQ;go_wp2_with fail;refine HF.out.mono ?_;rintro e w3 ⟨rfl,hb3⟩;have HB3:=Lib.hid (HBY.out.trans (hb3.mono HBY.out.size));have HD3:=Lib.hid (HDY.out.keep hb3);have HN3:=Lib.hid (HNY.out.keep hb3);have hD3:=HD3.out;have hN3:=HN3.out;clear hb3 kc kf kz dc df dz HF;obtain⟨kc,kf,kz⟩:=hN3.facts;obtain⟨dc,df,dz⟩:=hD3.facts;clear hN3 hD3;by_cases hf:entFind d.ents s=0
   ·have hfz:(entFind d.ents s != 0)=false:=by simpa using hf
    have HQ2:=Lib.hid (HQ1.out.trans (if_neg (by simp [hf])));have HF0:=Lib.hid hf;clear hf HQ1;generalize entFind d.ents s=f at hfz ⊢;by_cases h2:n.dev=d.dev
    ·have h2':(n.dev != d.dev)=false:=by simpa using h2
     have HQ3:=Lib.hid (HQ2.out.trans (if_neg (by simp [h2])));clear h2 HQ2;by_cases h3:1000≤n.links
     ·have HZ:=Lib.hid (HQ3.out.trans (if_pos h3));go_wp2_with fail;go_ret;rw [HZ.out];exact⟨rfl,R,HW.out.keep (bnext (balloc (Below.refl _ _) _) HB3.out),Stp.of_below (bnext (balloc (Below.refl _ _) _) HB3.out)⟩
     ·have HZ:=Lib.hid (HQ3.out.trans (if_neg h3));clear HQ3;go_wp2_with fail;have hDZ:=((HD3.out.setOther ⟨w2.heap.size,8,none⟩ (.int .i64 (n.links+1)) hne).setOther ⟨w2.heap.size,7,none⟩ (.int .i64 now) hne).drew;have hNZ:=(HN3.out.set 8 (.int .i64 (n.links+1))).set 7 (.int .i64 now);have hbZ:Below (w.alloc (.cells #[.int .i64 c.u,.int .i64 c.g] 54)).heap.size (w.alloc (.cells #[.int .i64 c.u,.int .i64 c.g] 54)) ((w3.setCell ⟨w2.heap.size,8,none⟩ (.int .i64 (n.links+1))).setCell ⟨w2.heap.size,7,none⟩ (.int .i64 now)):=(HB3.out.setCell hsz2 _).setCell hsz2 _;generalize (w3.setCell ⟨w2.heap.size,8,none⟩ (.int .i64 (n.links+1))).setCell ⟨w2.heap.size,7,none⟩ (.int .i64 now)=Z at hDZ hNZ hbZ ⊢;obtain⟨q0,q1,q2,q3,q4,q5,q6,q7,q8,q9,q10,q11⟩:=Blk.cells12 (x0:=.int .i64 n.no) hNZ;have pc0:=HPC.out Z (bnext (balloc (Below.refl _ _) _) hbZ);have hWZ:=HW.out.keep (bnext (balloc (Below.refl _ _) _) hbZ.drew);have HSet:=Lib.hid (hWZ.setN {n with links:=n.links+1,ctime:=now} (HNE.out.keep (bnext (balloc (Below.refl _ _) _) hbZ.drew)) (b:=n) (by rw [show ({n with links:=n.links+1,ctime:=now}:An).no=n.no from rfl,an_no HHN.out];exact HHN.out));have HWZ:=Lib.hid hWZ;have HEZ:=Lib.hid (HE.out.keep hbZ.drew);have HDZ:=Lib.hid hDZ;have HBZ:=Lib.hid hbZ;unfold An.v at HSet;clear hDZ hNZ hbZ hWZ kc kf kz dc df dz;refine wp_region_lex 5 mixed (by kernel_rfl) then_panic ?_;simp only [List.take_succ_cons,List.take_zero,List.drop_succ_cons,List.drop_zero]
      repeat still_step
      refine wpStill_nil ?_;go_wp2_with fail;refine HSet.out.mono ?_;rintro e w5 ⟨rfl,R5,hR5,hS5,-,-⟩;have hd5:=HDZ.out.wd HWZ.out hS5 rfl;have he5:=HEZ.out.wd HWZ.out hS5;have hg5:(S.set {n with links:=n.links+1,ctime:=now}).get dir=some d:=by
       rw [an_set (a:={n with links:=n.links+1,ctime:=now}) (b:=n) (by rw [show ({n with links:=n.links+1,ctime:=now}:An).no=n.no from rfl,an_no HHN.out];exact HHN.out),if_neg]
       ·exact HG.out
       ·intro hdn;have:dir=no:=hdn.trans (show n.no=no from an_no HHN.out);have h4:=HG.out;rw [this,HHN.out] at h4;injection h4 with h4;exact HK1.out (by rw [h4];exact HKD.out)
      have HPut:=Lib.hid (eput_new d.ents ea el ec s no w5 he5 (HK.out.get HG.out).1.rise HFew.out (find_has (HK.out.get HG.out).1.nz HF0.out));have HTo:=Lib.hid (fun l a n c w6 (hb6:Below w5.heap.size w5 w6) (hl:EntsAt w6 a n c l)=>touch_any (hR5.keep hb6) dir now d hg5 l a n c hl);have HST:=Lib.hid ((Stp.of_below (bnext (balloc (Below.refl _ _) _) HBZ.out.drew)).trans hS5);obtain⟨dc,df,dz⟩:=hd5.facts;clear hd5 he5 hg5 hR5 hS5 pc0 q0 q1 q2 q3 q4 q5 q6 q7 q8 q9 q10 q11;go_wp2_with fail;refine HPut.out.mono ?_;rintro e w6 ⟨⟨a',n',c',rfl,he6⟩,hb6⟩;have HT:=Lib.hid (HTo.out _ _ _ _ w6 hb6 he6);have HB6:=Lib.hid hb6;clear he6 hb6 HTo HPut;go_wp2_with fail;refine HT.out.mono ?_;rintro e w7 ⟨rfl,R7,hR7,hS7⟩;have HR7:=Lib.hid (And.intro hR7 hS7);clear hR7 hS7 HT;go_wp2_with fail;go_ret;rw [HZ.out];exact⟨rfl,R7,HR7.out.1,(HST.out.trans (Stp.of_below HB6.out)).trans HR7.out.2⟩
    ·have h2':(n.dev != d.dev)=true:=by simpa using h2
     have HZ:=Lib.hid (HQ2.out.trans (if_pos h2));clear h2 HQ2;go_wp2_with fail;go_ret;rw [HZ.out];exact⟨rfl,R,HW.out.keep (bnext (balloc (Below.refl _ _) _) HB3.out),Stp.of_below (bnext (balloc (Below.refl _ _) _) HB3.out)⟩
   ·have hfz:(entFind d.ents s != 0)=true:=by simpa using hf
    have HZ:=Lib.hid (HQ1.out.trans (if_pos hf));clear hf HQ1;generalize entFind d.ents s=f at hfz ⊢;go_wp2_with fail;go_ret;rw [HZ.out];exact⟨rfl,R,HW.out.keep (bnext (balloc (Below.refl _ _) _) HB3.out),Stp.of_below (bnext (balloc (Below.refl _ _) _) HB3.out)⟩
end
end
section
open Go.RowKit
section
variable {w w':World} {pw:Nat} {R:Rp} {S:Fs}
theorem dir_any (h:WdAt w pw R S) {N:Nat} (hk:FsOk S N) (hN:N≤999999) (c:Cr) (now dir:Int) (s:ByteArray) (hs:s.size≤9223372036854775807) (mode:Int) :
  Calls Tryz.prog 71 #[.pointer (some ⟨pw,0,none⟩),.agg #[.int .i64 c.u,.int .i64 c.g],.int .i64 now,.int .i64 dir,.string s,.int .i64 mode] w fun e w'=>
   e=.returned (.tuple #[.int .i64 (S.mkdir c now dir s mode).2.1,.int .i64 (S.mkdir c now dir s mode).2.2])∧∃ R',WdAt w' pw R' (S.mkdir c now dir s mode).1∧Stp (R.F pw) (R'.F pw) w w':=by
 have HP:=Lib.hid (fun w1 (hb1:Below w.heap.size w w1)=>put_any (h.keep hb1) hk hN c now dir s hs {an0 with kind:=1,mode:=mode,up:=dir} rfl (by show (0:Nat)≤_;omega));unfold An.v an0 at HP;have HW:=Lib.hid h;clear h hk;by_cases h1:mode<0
 ·have HE:=Lib.hid (show S.mkdir c now dir s mode=(S,0,1) by unfold Fs.mkdir;rw [if_pos (.inl h1)]);go_enter Tryz.func71,Tryz.ntmps71;go_wp2_with fail;go_ret2;rw [HE.out];exact⟨rfl,R,HW.out.keep (by go_grown),Stp.of_below (by go_grown)⟩
 ·skip
  by_cases h2:1023<mode
  ·have HE:=Lib.hid (show S.mkdir c now dir s mode=(S,0,1) by unfold Fs.mkdir;rw [if_pos (.inr h2)]);go_enter Tryz.func71,Tryz.ntmps71;go_wp2_with fail;go_ret2;rw [HE.out];exact⟨rfl,R,HW.out.keep (by go_grown),Stp.of_below (by go_grown)⟩
  ·skip
   have HE:=Lib.hid (show S.mkdir c now dir s mode=S.come c now dir s {an0 with kind:=1,mode:=mode,up:=dir} by unfold Fs.mkdir;rw [if_neg (by omega)]);unfold an0 at HE;go_enter Tryz.func71,Tryz.ntmps71;go_wp2_with fail;refine (HP.out _ (by first | exact Below.refl _ _ | exact balloc (Below.refl _ _) _ | exact balloc (balloc (Below.refl _ _) _) _)).mono ?_;rintro e w1 ⟨rfl,R1,hR1,hS1⟩;have HR1:=Lib.hid (And.intro hR1 hS1);clear hR1 hS1 HP;go_wp2_with fail;go_ret2;rw [HE.out];exact⟨rfl,R1,HR1.out.1,(Stp.of_below (by go_grown)).trans HR1.out.2⟩
theorem file_any (h:WdAt w pw R S) {N:Nat} (hk:FsOk S N) (hN:N≤999999) (c:Cr) (now dir:Int) (s:ByteArray) (hs:s.size≤9223372036854775807) (mode:Int) (data:ByteArray) (hd:data.size≤9223372036854775807) :
  Calls Tryz.prog 36 #[.pointer (some ⟨pw,0,none⟩),.agg #[.int .i64 c.u,.int .i64 c.g],.int .i64 now,.int .i64 dir,.string s,.int .i64 mode,.string data] w fun e w'=>
   e=.returned (.tuple #[.int .i64 (S.file c now dir s mode data).2.1,.int .i64 (S.file c now dir s mode data).2.2])∧∃ R',WdAt w' pw R' (S.file c now dir s mode data).1∧Stp (R.F pw) (R'.F pw) w w':=by
 have HP:=Lib.hid (fun w1 (hb1:Below w.heap.size w w1)=>put_any (h.keep hb1) hk hN c now dir s hs {an0 with kind:=2,mode:=mode,data:=data} rfl (hd));unfold An.v an0 at HP;have HW:=Lib.hid h;clear h hk;by_cases h1:mode<0
 ·have HE:=Lib.hid (show S.file c now dir s mode data=(S,0,1) by unfold Fs.file;rw [if_pos (.inl h1)]);go_enter Tryz.func36,Tryz.ntmps36;go_wp2_with fail;go_ret2;rw [HE.out];exact⟨rfl,R,HW.out.keep (by go_grown),Stp.of_below (by go_grown)⟩
 ·skip
  by_cases h2:1023<mode
  ·have HE:=Lib.hid (show S.file c now dir s mode data=(S,0,1) by unfold Fs.file;rw [if_pos (.inr h2)]);go_enter Tryz.func36,Tryz.ntmps36;go_wp2_with fail;go_ret2;rw [HE.out];exact⟨rfl,R,HW.out.keep (by go_grown),Stp.of_below (by go_grown)⟩
  ·skip
   by_cases h3:1048576<data.size
   ·have HE:=Lib.hid (show S.file c now dir s mode data=(S,0,3) by unfold Fs.file;rw [if_neg (by omega),if_pos h3]);have h3n:(1048576:Int)<(data.size:Int):=by omega
    go_enter Tryz.func36,Tryz.ntmps36;go_wp2_with fail;go_ret2;rw [HE.out];exact⟨rfl,R,HW.out.keep (by go_grown),Stp.of_below (by go_grown)⟩
   ·skip
    have h3n:¬ (1048576:Int)<(data.size:Int):=by omega
    have HE:=Lib.hid (show S.file c now dir s mode data=S.come c now dir s {an0 with kind:=2,mode:=mode,data:=data} by unfold Fs.file;rw [if_neg (by omega),if_neg h3]);unfold an0 at HE;go_enter Tryz.func36,Tryz.ntmps36;go_wp2_with fail;refine (HP.out _ (by first | exact Below.refl _ _ | exact balloc (Below.refl _ _) _ | exact balloc (balloc (Below.refl _ _) _) _)).mono ?_;rintro e w1 ⟨rfl,R1,hR1,hS1⟩;have HR1:=Lib.hid (And.intro hR1 hS1);clear hR1 hS1 HP;go_wp2_with fail;go_ret2;rw [HE.out];exact⟨rfl,R1,HR1.out.1,(Stp.of_below (by go_grown)).trans HR1.out.2⟩
theorem sym_any (h:WdAt w pw R S) {N:Nat} (hk:FsOk S N) (hN:N≤999999) (c:Cr) (now dir:Int) (s:ByteArray) (hs:s.size≤9223372036854775807) (text:ByteArray) (hd:text.size≤9223372036854775807) :
  Calls Tryz.prog 153 #[.pointer (some ⟨pw,0,none⟩),.agg #[.int .i64 c.u,.int .i64 c.g],.int .i64 now,.int .i64 dir,.string s,.string text] w fun e w'=>
   e=.returned (.tuple #[.int .i64 (S.sym c now dir s text).2.1,.int .i64 (S.sym c now dir s text).2.2])∧∃ R',WdAt w' pw R' (S.sym c now dir s text).1∧Stp (R.F pw) (R'.F pw) w w':=by
 have HP:=Lib.hid (fun w1 (hb1:Below w.heap.size w w1)=>put_any (h.keep hb1) hk hN c now dir s hs {an0 with kind:=3,mode:=511,data:=text} rfl (hd));unfold An.v an0 at HP;have HW:=Lib.hid h;clear h hk;have H0:=Lib.hid (contains_any text);have hb:hasB text 0=decide ((0:UInt8)∈text.data.toList):=rfl;have HB0:=Lib.hid hb.symm;clear hb;generalize hasB text 0=b0 at H0 HB0;by_cases h1:text.toList=[]
 ·have HE:=Lib.hid (show S.sym c now dir s text=(S,0,1) by unfold Fs.sym;rw [if_pos (.inl (by rw [←ba_list];exact h1))]);go_enter Tryz.func153,Tryz.ntmps153;go_wp2_with (go_at_call 108;((with_reducible refine (H0.out _).mono ?_);rintro e w1 ⟨rfl,rfl⟩));go_ret2;rw [HE.out];exact⟨rfl,R,HW.out.keep (by go_grown),Stp.of_below (by go_grown)⟩
 ·skip
  have h1':text.toList.isEmpty=false:=by simpa using h1
  by_cases h2:b0=true
  ·have HE:=Lib.hid (show S.sym c now dir s text=(S,0,1) by unfold Fs.sym;rw [if_pos (.inr (of_decide_eq_true (HB0.out.trans h2)))]);subst h2;go_enter Tryz.func153,Tryz.ntmps153;go_wp2_with (go_at_call 108;((with_reducible refine (H0.out _).mono ?_);rintro e w1 ⟨rfl,rfl⟩));go_ret2;rw [HE.out];exact⟨rfl,R,HW.out.keep (by go_grown),Stp.of_below (by go_grown)⟩
  ·skip
   have h2':b0=false:=by simpa using h2
   subst h2';by_cases h3:4096<text.size
   ·have HE:=Lib.hid (show S.sym c now dir s text=(S,0,13) by unfold Fs.sym;rw [if_neg (by rintro (h | h);exact h1 (by rw [ba_list];exact h);exact absurd (HB0.out.symm.trans (decide_eq_true h)) (by decide)),if_pos h3]);have h3n:(4096:Int)<(text.size:Int):=by omega
    go_enter Tryz.func153,Tryz.ntmps153;go_wp2_with (go_at_call 108;((with_reducible refine (H0.out _).mono ?_);rintro e w1 ⟨rfl,rfl⟩));go_ret2;rw [HE.out];exact⟨rfl,R,HW.out.keep (by go_grown),Stp.of_below (by go_grown)⟩
   ·skip
    have h3n:¬ (4096:Int)<(text.size:Int):=by omega
    have HE:=Lib.hid (show S.sym c now dir s text=S.come c now dir s {an0 with kind:=3,mode:=511,data:=text} by unfold Fs.sym;rw [if_neg (by rintro (h | h);exact h1 (by rw [ba_list];exact h);exact absurd (HB0.out.symm.trans (decide_eq_true h)) (by decide)),if_neg h3]);unfold an0 at HE;go_enter Tryz.func153,Tryz.ntmps153;go_wp2_with (go_at_call 108;((with_reducible refine (H0.out _).mono ?_);rintro e w1 ⟨rfl,rfl⟩));refine (HP.out _ (by first | exact Below.refl _ _ | exact balloc (Below.refl _ _) _ | exact balloc (balloc (Below.refl _ _) _) _)).mono ?_;rintro e w1 ⟨rfl,R1,hR1,hS1⟩;have HR1:=Lib.hid (And.intro hR1 hS1);clear hR1 hS1 HP;go_wp2_with fail;go_ret2;rw [HE.out];exact⟨rfl,R1,HR1.out.1,(Stp.of_below (by go_grown)).trans HR1.out.2⟩
end
end
end Go.Proofs.YtbndfmkgamdgeaaGreatDoor
