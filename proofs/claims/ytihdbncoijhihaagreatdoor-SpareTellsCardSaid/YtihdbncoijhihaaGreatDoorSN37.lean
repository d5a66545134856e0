import Derived.BigQuiet
import Derived.Test.YtihdbncoijhihaaGreatDoorSN28
import Derived.Test.YtihdbncoijhihaaGreatDoorSN6
import Derived.Test.YtihdbncoijhihaaGreatDoorSN14
import Derived.Test.YtihdbncoijhihaaGreatDoorSN18
import Derived.Test.YtihdbncoijhihaaGreatDoorSN21
import Derived.Test.YtihdbncoijhihaaGreatDoorSN35
import Derived.Test.YtihdbncoijhihaaGreatDoorSN36
import Derived.Test.YtihdbncoijhihaaGreatDoorSN23
import Derived.Test.YtihdbncoijhihaaGreatDoorSN31
import Derived.Test.YtihdbncoijhihaaGreatDoorSN33
import Derived.Test.YtihdbncoijhihaaGreatDoorSN29
import Derived.Test.YtihdbncoijhihaaGreatDoorSN3
import Derived.Test.YtihdbncoijhihaaGreatDoorSN16
set_option linter.unusedVariables false
set_option linter.unusedSimpArgs false
set_option maxRecDepth 100000
set_option maxHeartbeats 16000000
namespace Go.Proofs.YtihdbncoijhihaaGreatDoor
section
open Go.RowKit
theorem rstat_results {tmps:Array Value} {W:World} {B:Nat} {y0 y1 y2 y3 y4 y5 y6 y7 y8 y9 e:Int} (hb:Blk W B #[.int .i64 y0,.int .i64 y1,.int .i64 y2,.int .i64 y3,.int .i64 y4,.int .i64 y5,.int .i64 y6,.int .i64 y7,.int .i64 y8,.int .i64 y9] 172)
  (h8:tmps.getD 4 undef=.pointer (some ⟨B,0,none⟩)) (h9:tmps.getD 5 undef=.int .i64 e):(results Tryz.f155 tmps).run Tryz.prog W=.ok (.tuple #[.agg #[.int .i64 y0,.int .i64 y1,.int .i64 y2,.int .i64 y3,.int .i64 y4,.int .i64 y5,.int .i64 y6,.int .i64 y7,.int .i64 y8,.int .i64 y9],.int .i64 e]) W:=by
 have q0:=hb.cell 0;have q1:=hb.cell 1;have q2:=hb.cell 2;have q3:=hb.cell 3;have q4:=hb.cell 4;have q5:=hb.cell 5;have q6:=hb.cell 6;have q7:=hb.cell 7;have q8:=hb.cell 8;have q9:=hb.cell 9;rw [Array.getD_eq_getD_getElem?] at h8 h9;simp [results,Tryz.results155,go_sem,h8,h9,q0,q1,q2,q3,q4,q5,q6,q7,q8,q9]
theorem rstat21_results {tmps:Array Value} {W:World} {B:Nat} {y0 y1 y2 y3 y4 y5 y6 y7 y8 y9 e:Int} (hb:Blk W B #[.int .i64 y0,.int .i64 y1,.int .i64 y2,.int .i64 y3,.int .i64 y4,.int .i64 y5,.int .i64 y6,.int .i64 y7,.int .i64 y8,.int .i64 y9] 172)
  (h8:tmps.getD 4 undef=.pointer (some ⟨B,0,none⟩)) (h9:tmps.getD 5 undef=.int .i64 e):(results Tryz.f79 tmps).run Tryz.prog W=.ok (.tuple #[.agg #[.int .i64 y0,.int .i64 y1,.int .i64 y2,.int .i64 y3,.int .i64 y4,.int .i64 y5,.int .i64 y6,.int .i64 y7,.int .i64 y8,.int .i64 y9],.int .i64 e]) W:=by
 have q0:=hb.cell 0;have q1:=hb.cell 1;have q2:=hb.cell 2;have q3:=hb.cell 3;have q4:=hb.cell 4;have q5:=hb.cell 5;have q6:=hb.cell 6;have q7:=hb.cell 7;have q8:=hb.cell 8;have q9:=hb.cell 9;rw [Array.getD_eq_getD_getElem?] at h8 h9;simp [results,Tryz.results79,go_sem,h8,h9,q0,q1,q2,q3,q4,q5,q6,q7,q8,q9]
theorem rfind21_results {tmps:Array Value} {W:World} {B:Nat} {x:Fd} {e:Int} (hb:Blk W B #[.int .i64 x.dir,.string x.name,.int .i64 x.no,.bool x.slash] 58)
  (h8:tmps.getD 8 undef=.pointer (some ⟨B,0,none⟩)) (h9:tmps.getD 9 undef=.int .i64 e):(results Tryz.f90 tmps).run Tryz.prog W=.ok (.tuple #[x.v,.int .i64 e]) W:=by
 have q0:=hb.cell 0;have q1:=hb.cell 1;have q2:=hb.cell 2;have q3:=hb.cell 3;rw [Array.getD_eq_getD_getElem?] at h8 h9;simp [results,Tryz.results90,go_sem,Fd.v,h8,h9,q0,q1,q2,q3]
section
variable {w w':World} {pf:Nat} {R:Rf} {S:Fs}
theorem rstat_any (h:RfAt w pf R S) {N:Nat} (hk:FsOk S N) (no:Int) :
  Calls Tryz.prog 155 #[.pointer (some ⟨pf,0,none⟩),.int .i64 no] w fun e w'=>e=.returned (.tuple #[stV (S.get no),.int .i64 (noneE (S.get no))])∧Below w.heap.size w w':=by
 have hRX:=Blk.new w #[.int .i64 0,.int .i64 0,.int .i64 0,.int .i64 0,.int .i64 0,.int .i64 0,.int .i64 0,.int .i64 0,.int .i64 0,.int .i64 0] 172;have hbX:=balloc (Below.refl w.heap.size w) (.cells #[.int .i64 0,.int .i64 0,.int .i64 0,.int .i64 0,.int .i64 0,.int .i64 0,.int .i64 0,.int .i64 0,.int .i64 0,.int .i64 0] 172);have HRX:=Lib.hid hRX;have HBX:=Lib.hid hbX;obtain⟨da,dl,dc,-,hG⟩:=rgetZ_fix h no;have HG:=Lib.hid (hG _ hbX);have hnz:=getZ_no hk no;have HZ:=Lib.hid (fun a (hg:S.get no=some a)=>getZ_some hg);unfold An.v at HG;obtain⟨n,hn⟩:∃ n,S.getZ no=n:=⟨_,rfl⟩;rw [hn] at HG hnz;have HN:=Lib.hid hn;have hdl:n.data.size≤9223372036854775807:=by
  rw [←hn];unfold Fs.getZ
  cases hg:S.get no with
  | none=>show (0:Nat)≤_;omega
  | some a=>have:=(hk.get hg).1.data;show a.data.size≤_;omega
 clear h hk hRX hbX hG hn;go_enter Tryz.func155,Tryz.ntmps155;go_wp2_with fail;refine HG.out.mono ?_;rintro e w4 ⟨rfl,hb4⟩;have hd4:=Blk.new w4 #[.int .i64 n.no,.int .i64 n.dev,.int .i64 n.kind,.int .i64 n.mode,.int .i64 n.uid,.int .i64 n.gid,.int .i64 n.mtime,.int .i64 n.ctime,.int .i64 n.links,.int .i64 n.up,.string n.data,.slice da dl dc] 109;have hr4:=(HRX.out.keep hb4).old (.cells #[.int .i64 n.no,.int .i64 n.dev,.int .i64 n.kind,.int .i64 n.mode,.int .i64 n.uid,.int .i64 n.gid,.int .i64 n.mtime,.int .i64 n.ctime,.int .i64 n.links,.int .i64 n.up,.string n.data,.slice da dl dc] 109);have hb5:=balloc (bnext HBX.out hb4) (.cells #[.int .i64 n.no,.int .i64 n.dev,.int .i64 n.kind,.int .i64 n.mode,.int .i64 n.uid,.int .i64 n.gid,.int .i64 n.mtime,.int .i64 n.ctime,.int .i64 n.links,.int .i64 n.up,.string n.data,.slice da dl dc] 109);clear hb4;go_upto_region 2 with fail;generalize w4.alloc (.cells #[.int .i64 n.no,.int .i64 n.dev,.int .i64 n.kind,.int .i64 n.mode,.int .i64 n.uid,.int .i64 n.gid,.int .i64 n.mtime,.int .i64 n.ctime,.int .i64 n.links,.int .i64 n.up,.string n.data,.slice da dl dc] 109)=X at hd4 hr4 hb5 ⊢;obtain⟨nc,nf,nz⟩:=hd4.facts;obtain⟨rc,rf,rz⟩:=hr4.facts;have HR4:=Lib.hid hr4;have HB5:=Lib.hid hb5;clear hd4 hr4 hb5
 cases hg:S.get no with
 | none=>
  rw [hg] at hnz;have hnz2:(n.no == 0)=true:=hnz;have HG:=Lib.hid hg;clear hnz hg;go_wp2_with (exact bodyPost_ret (rstat_results HR4.out.set10 rfl rfl) rfl ⟨by rw [HG.out];rfl,below_set10 HB5.out (Nat.le_refl _)⟩)
 | some a=>
  have hna:n=a:=by rw [←HN.out,HZ.out a hg]
  subst hna;rw [hg] at hnz;have hnz2:(n.no == 0)=false:=hnz;have HG:=Lib.hid hg;clear hnz hg;go_wp2_with (exact bodyPost_ret (rstat_results HR4.out.set10 rfl rfl) rfl ⟨by rw [HG.out];rfl,below_set10 HB5.out (Nat.le_refl _)⟩)
theorem rstat21_any (h:RfAt w pf R S) {N:Nat} (hk:FsOk S N) (hd:R.dd=.bool false) (no:Int) :
  Calls Tryz.prog 79 #[.pointer (some ⟨pf,0,none⟩),.int .i64 no] w fun e w'=>e=.returned (.tuple #[stV (S.get no),.int .i64 (noneE (S.get no))])∧Below w.heap.size w w':=by
 have hRX:=Blk.new w #[.int .i64 0,.int .i64 0,.int .i64 0,.int .i64 0,.int .i64 0,.int .i64 0,.int .i64 0,.int .i64 0,.int .i64 0,.int .i64 0] 172;have hbX:=balloc (Below.refl w.heap.size w) (.cells #[.int .i64 0,.int .i64 0,.int .i64 0,.int .i64 0,.int .i64 0,.int .i64 0,.int .i64 0,.int .i64 0,.int .i64 0,.int .i64 0] 172);have HRX:=Lib.hid hRX;have HBX:=Lib.hid hbX;have HX:=h.keep ((Below.refl w.heap.size w).alloc (Nat.le_refl _) (.cells #[.int .i64 0,.int .i64 0,.int .i64 0,.int .i64 0,.int .i64 0,.int .i64 0,.int .i64 0,.int .i64 0,.int .i64 0,.int .i64 0] 172));have HS:=Lib.hid (rstat_any HX hk no);have hblk:=HX.blk;rw [hd] at hblk;obtain⟨pc,pf',pz⟩:=hblk.facts;clear h hk hd HX hRX hbX hblk
 cases hg:S.get no with
 | none=>
  rw [hg] at HS;unfold stV noneE at HS ⊢;go_enter Tryz.func79,Tryz.ntmps79;go_wp2_with fail;refine HS.out.mono ?_;rintro e w4 ⟨rfl,hb4⟩;have hr4:=HRX.out.keep hb4;obtain⟨rc,rf,rz⟩:=hr4.facts;have HR4:=Lib.hid hr4;have HB5:=Lib.hid (bnext HBX.out hb4);clear hb4 hr4 pc pf' pz;go_wp2_with (exact bodyPost_ret (rstat21_results HR4.out.set10 rfl rfl) rfl ⟨rfl,below_set10 HB5.out (Nat.le_refl _)⟩)
 | some a=>
  rw [hg] at HS;unfold stV noneE at HS ⊢;go_enter Tryz.func79,Tryz.ntmps79;go_wp2_with fail;refine HS.out.mono ?_;rintro e w4 ⟨rfl,hb4⟩;have hr4:=HRX.out.keep hb4;obtain⟨rc,rf,rz⟩:=hr4.facts;have HR4:=Lib.hid hr4;have HB5:=Lib.hid (bnext HBX.out hb4);clear hb4 hr4 pc pf' pz;go_wp2_with (exact bodyPost_ret (rstat21_results HR4.out.set10 rfl rfl) rfl ⟨rfl,below_set10 HB5.out (Nat.le_refl _)⟩)
theorem rfind21_any (h:RfAt w pf R S) {N:Nat} (hk:FsOk S N) (hd:R.dd=.bool false) (c:Cr) (path:ByteArray) (hp:path.size≤100000) (f:Bool) :
  Calls Tryz.prog 90 #[.pointer (some ⟨pf,0,none⟩),.agg #[.int .i64 c.u,.int .i64 c.g],.string path,.bool f] w fun e w'=>e=.returned (.tuple #[(S.path c path f).1.v,.int .i64 (S.path c path f).2])∧Below w.heap.size w w':=by
 have hRX:Blk ((w.alloc (.cells #[.int .i64 c.u,.int .i64 c.g] 27)).alloc (.cells #[.int .i64 0,.string ⟨#[]⟩,.int .i64 0,.bool false] 58)) (w.heap.size+1) #[.int .i64 0,.string ⟨#[]⟩,.int .i64 0,.bool false] 58:=by
  have:=Blk.new (w.alloc (.cells #[.int .i64 c.u,.int .i64 c.g] 27)) #[.int .i64 0,.string ⟨#[]⟩,.int .i64 0,.bool false] 58
  rwa [World.size_alloc] at this
 have hCX:=(Blk.new w #[.int .i64 c.u,.int .i64 c.g] 27).old (.cells #[.int .i64 0,.string ⟨#[]⟩,.int .i64 0,.bool false] 58);have hbX:=balloc (balloc (Below.refl w.heap.size w) (.cells #[.int .i64 c.u,.int .i64 c.g] 27)) (.cells #[.int .i64 0,.string ⟨#[]⟩,.int .i64 0,.bool false] 58);have HX:=h.keep hbX;have HS:=Lib.hid (rpathC_any HX hk c path hp f);have hblk:=HX.blk;rw [hd] at hblk;obtain⟨pc,pf',pz⟩:=hblk.facts;obtain⟨cc,-,cz⟩:=hCX.facts;have HRX:=Lib.hid hRX;have HBX:=Lib.hid hbX;generalize S.path c path f=rd at HS ⊢;unfold Fd.v at HS;clear h hk hd HX hRX hbX hblk hCX;go_enter Tryz.func90,Tryz.ntmps90;go_wp2_with fail;refine HS.out.mono ?_;rintro e w4 ⟨rfl,hb4⟩;have hr4:=HRX.out.keep hb4;obtain⟨rc,rf,rz⟩:=hr4.facts;have HR4:=Lib.hid hr4;have HB5:=Lib.hid (bnext HBX.out hb4);clear hb4 hr4 pc pf' pz cc cz;go_wp2_with (exact bodyPost_ret (rfind21_results HR4.out.set4 rfl rfl) rfl ⟨rfl,below_set4 HB5.out (Nat.le_succ _)⟩)
theorem rpath24_any (h:RfAt w pf R S) {N:Nat} (hk:FsOk S N) (hp:Pl S) (hl:S.ns.length≤100000) (hd:R.dd=.bool false) (dir:Int) (n:ByteArray) (hn:n.size≤100000) (hpz:∀ s,S.place_ dir=some s→s.size≤100000) :
  Calls Tryz.prog 18 #[.pointer (some ⟨pf,0,none⟩),.int .i64 dir,.string n] w fun e w'=>e=.returned (.tuple #[.string (S.pathF dir n).1,.int .i64 (S.pathF dir n).2])∧Below w.heap.size w w':=by
 have HC:=Lib.hid (rcheck_any n w hn);have HS:=Lib.hid (rstat21_any h hk hd dir);have HWh:=Lib.hid (fun w1 (hb:Below w.heap.size w w1) d=>rwhere_any (h.keep hb) hk hp hl d);have HPz:=Lib.hid hpz;have HZ0:=Lib.hid (fun h=>pathF_chk (S:=S) (dir:=dir) (n:=n) h);have HZ1:=Lib.hid (fun h h2=>pathF_none (S:=S) (dir:=dir) (n:=n) h h2);have HZ2:=Lib.hid (fun a h h2 h3=>pathF_kind (S:=S) (dir:=dir) (n:=n) (a:=a) h h2 h3);have HZ3:=Lib.hid (fun a h h2 h3 h4=>pathF_gone (S:=S) (dir:=dir) (n:=n) (a:=a) h h2 h3 h4);have HZ4:=Lib.hid (fun a s h h2 h3 h4=>pathF_some (S:=S) (dir:=dir) (n:=n) (a:=a) (s:=s) h h2 h3 h4);generalize S.pathF dir n=Z at HZ0 HZ1 HZ2 HZ3 HZ4 ⊢;clear h hk hp hd hpz;by_cases hc:checkE n=0
 ·have HHc:=Lib.hid hc;rw [hc] at HC;clear hc
  cases hg:S.get dir with
  | none=>
   rw [hg] at HS;have HZ:=Lib.hid (HZ1.out HHc.out hg);unfold stV noneE at HS;clear hg;go_enter Tryz.func18,Tryz.ntmps18;go_wp2_with fail;refine HC.out.mono ?_;rintro e w0 ⟨rfl,rfl⟩;go_wp2_with fail;refine HS.out.mono ?_;rintro e w1 ⟨rfl,hb1⟩;have HB1:=Lib.hid (balloc hb1 (.cells #[.int .i64 0,.int .i64 0,.int .i64 0,.int .i64 0,.int .i64 0,.int .i64 0,.int .i64 0,.int .i64 0,.int .i64 0,.int .i64 0] 172));clear hb1;go_wp2_with fail;go_ret2;exact⟨by rw [HZ.out];rfl,HB1.out⟩
  | some a=>
   rw [hg] at HS;have HG:=Lib.hid hg;unfold stV noneE at HS;clear hg;go_enter Tryz.func18,Tryz.ntmps18;go_wp2_with fail;refine HC.out.mono ?_;rintro e w0 ⟨rfl,rfl⟩;go_wp2_with fail;refine HS.out.mono ?_;rintro e w1 ⟨rfl,hb1⟩;have hX:=Blk.new w1 #[.int .i64 a.no,.int .i64 a.dev,.int .i64 a.kind,.int .i64 a.mode,.int .i64 a.uid,.int .i64 a.gid,.int .i64 a.links,.int .i64 a.data.size,.int .i64 a.mtime,.int .i64 a.ctime] 172;have hbX:=balloc hb1 (.cells #[.int .i64 a.no,.int .i64 a.dev,.int .i64 a.kind,.int .i64 a.mode,.int .i64 a.uid,.int .i64 a.gid,.int .i64 a.links,.int .i64 a.data.size,.int .i64 a.mtime,.int .i64 a.ctime] 172);go_upto_region 5 with fail;generalize w1.alloc (.cells #[.int .i64 a.no,.int .i64 a.dev,.int .i64 a.kind,.int .i64 a.mode,.int .i64 a.uid,.int .i64 a.gid,.int .i64 a.links,.int .i64 a.data.size,.int .i64 a.mtime,.int .i64 a.ctime] 172)=X at hX hbX ⊢;have HBX:=Lib.hid hbX;obtain⟨xc,xf,xz⟩:=hX.facts;clear hb1 hX hbX;by_cases hkd:a.kind=1
   ·have hk1:(a.kind != 1)=false:=by simpa using hkd
    have HKd:=Lib.hid hkd;clear hkd;go_wp2_with fail;refine (HWh.out _ HBX.out _).mono ?_;rintro e w3 ⟨rfl,hb3⟩;have HB3:=Lib.hid (bnext HBX.out hb3);unfold whereV;clear hb3 xc xf xz
    cases hpl:S.place_ dir with
    | none=>
     have HZ:=Lib.hid (HZ3.out _ HHc.out HG.out HKd.out hpl);clear hpl;go_wp2_with fail;go_ret2;exact⟨by rw [HZ.out];rfl,HB3.out⟩
    | some s=>
     have hs:=HPz.out s hpl;have hz0:=HZ4.out _ _ HHc.out HG.out HKd.out hpl;have HBl:=Lib.hid (fun w=>rbelow_any s n w hs hn);obtain⟨t,ht⟩:∃ t,belowB s n=t:=⟨_,rfl⟩;rw [ht] at HBl hz0;have HZ:=Lib.hid hz0;clear hpl ht hz0;go_wp2_with fail;refine (HBl.out _).mono ?_;rintro e w4 ⟨rfl,rfl⟩;by_cases hz:4096<t.size
     ·have hz2:(4096:Int)<(t.size:Int):=by omega
      have HZz:=Lib.hid (HZ.out.trans (if_pos hz));go_wp2_with fail;go_ret2;exact⟨by rw [HZz.out];rfl,HB3.out⟩
     ·have hz2:¬ (4096:Int)<(t.size:Int):=by omega
      have HZz:=Lib.hid (HZ.out.trans (if_neg hz));go_wp2_with fail;go_ret2;exact⟨by rw [HZz.out];rfl,HB3.out⟩
   ·have hk1:(a.kind != 1)=true:=by simpa using hkd
    have HZ:=Lib.hid (HZ2.out _ HHc.out HG.out hkd);clear hkd;go_wp2_with fail;go_ret2;exact⟨by rw [HZ.out];rfl,HBX.out⟩
 ·have HZ:=Lib.hid (HZ0.out hc);have hcb:(checkE n != 0)=true:=by simpa using hc
  generalize checkE n=ce at HC hcb HZ;clear hc;go_enter Tryz.func18,Tryz.ntmps18;go_wp2_with fail;refine HC.out.mono ?_;rintro e w0 ⟨rfl,rfl⟩;go_wp2_with fail;go_ret2;exact⟨by rw [HZ.out];rfl,Below.refl _ _⟩
end
end
section
open Go.RowKit Go.Shelf
theorem rnote_end {a:Act} {W w0:World} {N B:Nat} {k:UInt8} {no e:Int} {s t x:ByteArray} {rd:Nt×Int} (hb:Blk W B #[.int .u8 k.toNat,.int .i64 no,.string s,.string t,.string x] 128)
  (h8:a.tmps.getD 12 undef=.pointer (some ⟨B,0,none⟩)) (h9:a.tmps.getD 13 undef=.int .i64 e) (hr:rd=((⟨k,no,s,t,x⟩:Nt),e)) (hd:a.defers=[]) (hB:Below N w0 W) :
  bodyPost Tryz.prog Tryz.f56 (fun z w'=>z=.returned (.tuple #[rd.1.v,.int .i64 rd.2])∧Below N w0 w') .ret a W:=by
 subst hr;have q0:=hb.cell 0;have q1:=hb.cell 1;have q2:=hb.cell 2;have q3:=hb.cell 3;have q4:=hb.cell 4;rw [Array.getD_eq_getD_getElem?] at h8 h9;refine bodyPost_ret (v:=.tuple #[(⟨k,no,s,t,x⟩:Nt).v,.int .i64 e]) ?_ hd ⟨rfl,hB⟩;simp [results,Tryz.results56,go_sem,Nt.v,h8,h9,q0,q1,q2,q3,q4]
section
variable {w w':World} {pf:Nat} {R:Rf} {S:Fs}
theorem rspare_any (h:RfAt w pf R S) {N:Nat} (hk:FsOk S N) (hN:N≤999999) (hm:Nm S) {d:Bool} (hd:R.dd=.bool d) (c:Cr) (dir:Int) (n:ByteArray) (hn:n.size≤100000) :
  Calls Tryz.prog 50 #[.pointer (some ⟨pf,0,none⟩),.agg #[.int .i64 c.u,.int .i64 c.g],.int .i64 dir,.string n] w fun e w'=>e=.returned (.tuple #[.string (S.spareF d c dir n).1,.int .i64 (S.spareF d c dir n).2])∧Below w.heap.size w w':=by
 have hX:=Blk.new w #[.int .i64 c.u,.int .i64 c.g] 27;have hbX:=balloc (Below.refl w.heap.size w) (.cells #[.int .i64 c.u,.int .i64 c.g] 27);have HL:=Lib.hid (rlist21_any (h.keep hbX) hk hN hd c dir);have hsz:=listF_names hm d c dir;have hfew:=listF_few hk d c dir;have HR:=Lib.hid (show S.spareF d c dir n=if (S.listF d c dir).2≠0 then (ByteArray.empty,(S.listF d c dir).2) else tilN n (mostB n 0 ((S.listF d c dir).1.map (·.name))+1) from rfl);generalize S.spareF d c dir n=rd at HR ⊢;generalize S.listF d c dir=L at HL HR hsz hfew;obtain⟨es,le⟩:=L;dsimp only at HL HR hsz hfew;have HIx:=Lib.hid (fun (e:En) (he:e∈es) w=>ridx39_any n e.name hn (Nat.le_trans (hsz e he) (by decide)) w);have hm0:=mostB_low n (es.map (·.name)) 0 (Int.le_refl _) (by decide);have HCk:=Lib.hid (fun w=>rcheck_any n w hn);have HT:=Lib.hid (fun k=>show tilN n k=if checkE n≠0 then (ByteArray.empty,checkE n) else if k<1∨999999999<k then (ByteArray.empty,3) else if 255<(tilB n k).size then (ByteArray.empty,13) else (tilB n k,0) from rfl);have HTB:=Lib.hid (fun k=>show tilB n k=n ++ ByteArray.mk #[46,126] ++ str (decL k) ++ ByteArray.mk #[126] from rfl);generalize checkE n=ce at HCk HT;clear h hk hm;go_enter Tryz.func50,Tryz.ntmps50;go_upto_region 1 with fail;generalize w.alloc (.cells #[.int .i64 c.u,.int .i64 c.g] 27)=X at hX hbX HL ⊢;obtain⟨xc,xf,xz⟩:=hX.facts;have HB:=Lib.hid hbX;clear hX hbX;go_wp2_with fail;refine HL.out.mono ?_;rintro e w2 ⟨v,rfl,hO,hb2⟩;obtain⟨a,cp,rfl,hE⟩:=hO.form;have HB2:=Lib.hid (bnext HB.out hb2);have HE:=Lib.hid (fun w' (hb:Below w2.heap.size w2 w')=>hE.keep hb);have h63:=hE.sl.2.1;have h64:=hE.sl.2.2.1;clear hO hE hb2 xc xf xz;by_cases h0:le=0
 ·have HR1:=Lib.hid (HR.out.trans (if_neg (by simpa using h0)));subst h0;go_wp2_with fail
  go_loopw [12,13] (fun t12 t13 wr=>∃ (i:Nat) (m:Int),i≤es.length∧t13=.int .i64 i∧t12=.int .i64 m∧mostB n m ((es.drop i).map (·.name))=mostB n 0 (es.map (·.name))∧Below w2.heap.size w2 wr) (fun _ t13 _=>es.length - (intOf t13).toNat)
  case atStart=>exact ⟨0,0,Nat.zero_le _,rfl,rfl,rfl,Below.refl _ _⟩
  case round=>
   obtain⟨i,m,hi,rfl,rfl,hmm,hb⟩:=hrel;have HBr:=Lib.hid hb;by_cases hlt:i<es.length
   ·have hlt2:(i:Int)<(es.length:Int):=by omega
    have hi0:¬ (i:Int)<0:=by omega
    obtain⟨b,off,rfl,hbl⟩:=(HE.out _ hb).some_of (by omega);obtain⟨c1,c2⟩:=(HE.out _ hb).cell i hlt;have HM:=Lib.hid (show mostB n (max m (idxB n es[i].name)) ((es.drop (i+1)).map (·.name))=mostB n 0 (es.map (·.name)) by rw [←hmm,List.drop_eq_getElem_cons hlt];rfl);have HI1:=Lib.hid (HIx.out es[i] (List.getElem_mem hlt));generalize es[i]=x at c1 c2 HM HI1;generalize idxB n x.name=k at HM HI1;clear hmm hb;go_wp2_with fail;refine (HI1.out _).mono ?_;rintro e w4 ⟨rfl,hb4⟩;have HB4:=Lib.hid (bnext HBr.out hb4);clear hb4 c1 c2;go_wp2_with fail;go_roundw
    case measure=>simp [intOf];omega
    case rel=>exact ⟨i+1,_,by omega,by go_num,rfl,HM.out,HB4.out⟩
   ·obtain rfl:i=es.length:=by omega
    have hmv:m=mostB n 0 (es.map (·.name)):=by rw [←hmm,List.drop_length];rfl
    rw [←hmv] at hm0;have HR2:=Lib.hid (show rd=tilN n (m+1) by rw [HR1.out,←hmv]);have HT1:=Lib.hid (HR2.out.trans (HT.out (m+1)));have HB3:=Lib.hid (HB2.out.trans (hb.mono HB2.out.size));have hw:IntKind.i64.wrap (m+1)=m+1:=by simp [IntKind.wrap,IntKind.bits,IntKind.signed];omega
    clear hmm hb hmv;go_wp2_with fail;refine (HCk.out _).mono ?_;rintro e _ ⟨rfl,rfl⟩;by_cases hc:ce=0
    ·have HT2:=Lib.hid (HT1.out.trans (if_neg (by simpa using hc)));subst hc;by_cases hn2:999999999<m+1
     ·have HE5:=Lib.hid (HT2.out.trans (if_pos (.inr hn2)));go_wp2_with fail;go_ret2;rw [HE5.out];exact⟨rfl,HB3.out⟩
     ·have HT3:=Lib.hid (HT2.out.trans (if_neg (by omega)));have HD:=Lib.hid (fun w=>rdec_any (m+1) w (by omega) (by omega));have hl:=(decL_len20 (m+1) (by omega) (by omega)).1;have hz0:(str (decL (m+1))).size≤20:=by rw [str_size];exact hl
      have hz1:¬ 9223372036854775807<n.size+2:=by omega
      have hz2:¬ 9223372036854775807<n.size+2+(str (decL (m+1))).size:=by omega
      have hz3:¬ 9223372036854775807<n.size+2+(str (decL (m+1))).size+1:=by omega
      have hTz:(tilB n (m+1)).size=n.size+2+(str (decL (m+1))).size+1:=by
       unfold tilB;rw [ByteArray.size_append,ByteArray.size_append,tilA_size];rfl
      have HTB1:=Lib.hid (HTB.out (m+1));rw [hTz] at HT3;generalize str (decL (m+1))=ds at HD HT3 HTB1 hz0 hz1 hz2 hz3;clear hl hTz;go_wp2_with fail;refine (HD.out _).mono ?_;rintro e w7 ⟨rfl,hb7⟩;have HB7:=Lib.hid (bnext HB3.out hb7);clear hb7;by_cases h5:255<n.size+2+ds.size+1
      ·have HE5:=Lib.hid (HT3.out.trans (if_pos h5));have h5b:(255:Int)<((n.size+2+ds.size+1:Nat):Int):=by omega
       go_wp2_with fail;go_ret2;rw [HE5.out];exact⟨rfl,HB7.out⟩
      ·have HE5:=Lib.hid (HT3.out.trans (if_neg h5));have h5b:¬ (255:Int)<((n.size+2+ds.size+1:Nat):Int):=by omega
       go_wp2_with fail;go_ret2;rw [HE5.out,HTB1.out];exact⟨rfl,HB7.out⟩
    ·have hcb:(ce != 0)=true:=by simpa using hc
     have HT2:=Lib.hid (HT1.out.trans (if_pos hc));clear hc;go_wp2_with fail;go_ret2;rw [HT2.out];exact⟨rfl,HB3.out⟩
 ·have h0b:(le != 0)=true:=by simpa using h0
  have HR1:=Lib.hid (HR.out.trans (if_pos h0));clear h0;go_wp2_with fail;go_ret2;rw [HR1.out];exact⟨rfl,HB2.out⟩
theorem rnote40_any (h:RfAt w pf R S) {N:Nat} (hk:FsOk S N) (hp:Pl S) (hl:S.ns.length≤100000) (hd:R.dd=.bool false) (no dir:Int) (a:ByteArray) (to':Int) (b:ByteArray) (ha:a.size≤100000) (hb:b.size≤100000) (hpz:∀ k s,S.place_ k=some s→s.size≤100000) :
  Calls Tryz.prog 56 #[.pointer (some ⟨pf,0,none⟩),.int .i64 no,.int .i64 dir,.string a,.int .i64 to',.string b] w fun e w'=>e=.returned (.tuple #[(S.note40 no dir a to' b).1.v,.int .i64 (S.note40 no dir a to' b).2])∧Below w.heap.size w w':=by
 have HP:=Lib.hid (fun w1 (hb1:Below w.heap.size w w1) d n (hn:n.size≤100000)=>rpath24_any (h.keep hb1) hk hp hl hd d n hn (hpz d));have HN:=Lib.hid (show S.note40 no dir a to' b=if (S.pathF dir a).2≠0 then (nt0,(S.pathF dir a).2) else if (S.pathF to' b).2≠0 then (nt0,(S.pathF to' b).2) else (⟨109,no,(S.pathF dir a).1,(S.pathF to' b).1,ByteArray.empty⟩,0) from rfl);have HP1:=Lib.hid (fun w1 hb1=>HP.out w1 hb1 dir a ha);have HP2:=Lib.hid (fun w1 hb1=>HP.out w1 hb1 to' b hb);generalize S.note40 no dir a to' b=rd at HN ⊢;generalize S.pathF dir a=p1 at HN HP1;generalize S.pathF to' b=p2 at HN HP2;obtain⟨s1,e1⟩:=p1;obtain⟨s2,e2⟩:=p2;dsimp only at HN HP1 HP2;have hX:=Blk.new w #[.int .u8 0,.int .i64 0,.string ⟨#[]⟩,.string ⟨#[]⟩,.string ⟨#[]⟩] 128;have hbX:=balloc (Below.refl w.heap.size w) (.cells #[.int .u8 0,.int .i64 0,.string ⟨#[]⟩,.string ⟨#[]⟩,.string ⟨#[]⟩] 128);clear h hk hp HP;go_enter Tryz.func56,Tryz.ntmps56;go_upto_region 1 with fail;generalize w.alloc (.cells #[.int .u8 0,.int .i64 0,.string ⟨#[]⟩,.string ⟨#[]⟩,.string ⟨#[]⟩] 128)=X at hX hbX ⊢;have HX:=Lib.hid (And.intro hX hbX);clear hX hbX;go_wp2_with fail;refine (HP1.out _ HX.out.2).mono ?_;rintro e w1 ⟨rfl,hb1⟩;have HX1:=Lib.hid (And.intro (HX.out.1.keep hb1) (bnext HX.out.2 hb1));clear hb1;by_cases h1:e1=0
 ·have HN1:=Lib.hid (HN.out.trans (if_neg (by simpa using h1)));subst h1;go_wp2_with fail;refine (HP2.out _ HX1.out.2).mono ?_;rintro e w2 ⟨rfl,hb2⟩;have HX2:=Lib.hid (And.intro (HX1.out.1.keep hb2) (bnext HX1.out.2 hb2));clear hb2;obtain⟨xc,xf,xz⟩:=HX2.out.1.facts;by_cases h2:e2=0
  ·have HN2:=Lib.hid (HN1.out.trans (if_neg (by simpa using h2)));subst h2;go_wp2_with fail;exact rnote_end HX2.out.1.fill5 rfl rfl HN2.out rfl (below_fill5 HX2.out.2 (Nat.le_refl _))
  ·have h2b:(e2 != 0)=true:=by simpa using h2
   have HN2:=Lib.hid (HN1.out.trans (if_pos h2));clear h2;go_wp2_with fail;exact rnote_end HX2.out.1.fill5 rfl rfl HN2.out rfl (below_fill5 HX2.out.2 (Nat.le_refl _))
 ·have h1b:(e1 != 0)=true:=by simpa using h1
  have HN1:=Lib.hid (HN.out.trans (if_pos h1));obtain⟨xc,xf,xz⟩:=HX1.out.1.facts;clear h1;go_wp2_with fail;exact rnote_end HX1.out.1.fill5 rfl rfl HN1.out rfl (below_fill5 HX1.out.2 (Nat.le_refl _))
end
end
section
open Go.RowKit Go.Shelf
attribute [local go_sem] Oper.semAt_some
theorem tilN_err (n:ByteArray) (k:Int) (h:(tilN n k).2≠0):(tilN n k).1=ByteArray.empty:=by
 unfold tilN at h ⊢
 repeat' split
 all_goals first | rfl | skip
 rename_i h1 h2 h3;rw [if_neg h1,if_neg h2,if_neg h3] at h;exact absurd rfl h
theorem spareF_err (S:Fs) (d:Bool) (c:Cr) (dir:Int) (n:ByteArray) (h:(S.spareF d c dir n).2≠0):(S.spareF d c dir n).1=ByteArray.empty:=by
 unfold Fs.spareF at h ⊢
 split
 ·rfl
 ·rename_i h1;rw [if_neg h1] at h;exact tilN_err _ _ h
theorem tilN_size (n:ByteArray) (k:Int):(tilN n k).1.size≤255:=by
 unfold tilN
 repeat' split
 all_goals first | exact Nat.zero_le _ | (show (tilB n k).size≤255;omega)
theorem spareF_size (S:Fs) (d:Bool) (c:Cr) (dir:Int) (n:ByteArray):(S.spareF d c dir n).1.size≤255:=by
 unfold Fs.spareF
 split
 ·exact Nat.zero_le _
 ·exact tilN_size _ _
theorem entsOf_names {S:Fs} (hm:Nm S) (k:Int):∀ x∈S.entsOf k,x.name.size≤255:=by
 intro x hx;unfold Fs.entsOf at hx
 split at hx
 ·rename_i a ha;exact check_len (hm a (an_mem ha) x hx)
 ·cases hx
theorem fs_last40 {S:Fs} {N:Nat} (h:FsOk S N) (hN:N≤999999):1≤S.last∧S.last≤999999:=by
 have h1:=h.d1;have h2:=h.root S.ds[0] (List.getElem_mem (by omega));have h3:=h.lN;omega
theorem spareNext_any (w:World) {ma:Option Addr} {mn mc:Nat} {ia:Option Addr} {il ic:Nat} {ms:List Mt} {is:List It} (h:SdAt w ma mn mc ia il ic ms is) (u g:Int) (dt pt tx:ByteArray) (no now:Int) {pa:Option Addr} {pn pc:Nat} {pl:List (Int×Int)} (hpl:SliceAt w 2 fltR pa pn pc pl) (n:ByteArray) (hn63:n.size≤9223372036854775807) :
  Calls Tryz.prog 6 #[.agg #[.slice ma mn mc,.slice ia il ic,.int .i64 u,.int .i64 g,.string dt,.string pt,.string tx,.int .i64 no,.int .i64 now,.slice pa pn pc],.string n] w fun e w'=>e=.returned (.bool true)∧Below w.heap.size w w':=by
 have hX:=Blk.new w #[.slice ma mn mc,.slice ia il ic,.int .i64 u,.int .i64 g,.string dt,.string pt,.string tx,.int .i64 no,.int .i64 now,.slice pa pn pc] 72;have hbX:=balloc (Below.refl w.heap.size w) (.cells #[.slice ma mn mc,.slice ia il ic,.int .i64 u,.int .i64 g,.string dt,.string pt,.string tx,.int .i64 no,.int .i64 now,.slice pa pn pc] 72);have hbI:=((Below.refl _ w).alloc (Nat.le_refl _) (.cells #[.slice ma mn mc,.slice ia il ic,.int .i64 u,.int .i64 g,.string dt,.string pt,.string tx,.int .i64 no,.int .i64 now,.slice pa pn pc] 72));have HFw:=Lib.hid (few30_any _ (h.keep hbI) u g dt pt tx no now (pa:=pa) (pc:=pc) hpl.1);have HS:=Lib.hid (And.intro h hpl);have HAw:=Lib.hid awake40_any;clear h hpl hbI;go_enter Tryz.func6,Tryz.ntmps6;go_upto_region 1 with fail;generalize w.alloc (.cells #[.slice ma mn mc,.slice ia il ic,.int .i64 u,.int .i64 g,.string dt,.string pt,.string tx,.int .i64 no,.int .i64 now,.slice pa pn pc] 72)=w0 at hX hbX HFw ⊢;obtain⟨bc,bf,bz⟩:=hX.facts;go_wp2_with fail;refine HFw.out.mono ?_;rintro e w1 ⟨rfl,hb1⟩;have HB1:=Lib.hid (hX.keep hb1);have HBw:=Lib.hid (bnext hbX hb1);clear hX hbX hb1 HFw bc bf bz;obtain⟨bc,bf,bz⟩:=HB1.out.facts
 cases hf:few30 ms is dt pt tx pl with
 | false=>
  clear hf bc bf bz;go_wp2_with fail;refine (HAw.out _).mono ?_;rintro e w2 ⟨rfl,hb2⟩;have HB2:=Lib.hid (bnext HBw.out hb2);clear hb2;go_wp2_with fail;go_ret;exact⟨rfl,HB2.out⟩
 | true=>
  by_cases hn:200<n.size
  ·have hni:(200:Int)<(n.size:Int):=by omega
   clear hf bc bf bz;go_wp2_with fail;refine (HAw.out _).mono ?_;rintro e w2 ⟨rfl,hb2⟩;have HB2:=Lib.hid (bnext HBw.out hb2);clear hb2;go_wp2_with fail;go_ret;exact⟨rfl,HB2.out⟩
  ·have hni:¬ (200:Int)<(n.size:Int):=by omega
   have HBo:=Lib.hid (both30_any w1 (HS.out.1.keep HBw.out) u g dt pt tx no now (HS.out.2.keep HBw.out) hf);obtain⟨hf2,-,-,-,-⟩:=few30_of hf;obtain⟨hm10,hi30,-,-⟩:=few22_of hf2;have HOk:=Lib.hid (plant_ok ms is);have HNm:=Lib.hid (plant_nm ms is);obtain⟨N,hN⟩:∃ N,1+2*ms.length+is.length=N:=⟨_,rfl⟩;have hNs:N≤51:=by omega
   rw [hN] at HOk;have hlast:=fs_last40 (plant_ok ms is) (by omega);generalize plantF ms is=S at HBo HOk HNm hlast;have HNs:=Lib.hid hNs;clear hf hf2 hi30 hm10 hNs hN;go_wp2_with fail;refine HBo.out.mono ?_;rintro e w2 ⟨p1,q1,R1,v1,pf,R2,rfl,hBo⟩;have HB2:=Lib.hid (bnext HBw.out hBo.below);have HBt:=Lib.hid hBo;clear bc bf bz;have HC2:=Lib.hid (HB1.out.keep hBo.below);obtain⟨bc,bf,bz⟩:=HC2.out.facts;obtain⟨rc,rf,rz⟩:=hBo.r.blk.facts;clear hBo;go_upto_region 7 with (go_quiet (fail));generalize wrap64 (1+wrap64 ((IntKind.u64.wrap no).tmod S.last))=n2;have hb3:=below_drewN (Below.refl w2.heap.size w2) nq;generalize w2.drewN nq=w3 at hb3 ⊢;have HB3:=Lib.hid hb3;have HSp:=Lib.hid (sname_any (HBt.out.y.keep HB3.out) HOk.out (by have:=HNs.out;omega) HNm.out ⟨0,0⟩ n2 n (by omega));dsimp only at HSp;have hnx:=fun s=>spare_next (S:=S) (c:=⟨0,0⟩) (dir:=n2) (n:=n) (s:=s);have her:=spareF_err S false ⟨0,0⟩ n2 n;have hsz:=spareF_size S false ⟨0,0⟩ n2 n;obtain⟨⟨s,e1⟩,hs⟩:∃ x,S.spareF false ⟨0,0⟩ n2 n=x:=⟨_,rfl⟩;rw [hs] at HSp her hsz;simp only [hs] at hnx;dsimp only at HSp her hsz;clear hs hb3 bc bf bz rc rf rz hlast;go_wp2_with fail;refine HSp.out.mono ?_;rintro e w4 ⟨rfl,hb4⟩;have HB4:=Lib.hid (bnext HB3.out hb4);clear hb4;by_cases h0:e1=0
   ·subst h0;obtain⟨hidx,hfind⟩:=hnx s rfl;clear hnx her;obtain⟨ea,el,ec,hE,hG⟩:=rgetZ_fix (HBt.out.r.keep HB4.out) n2;have HG:=Lib.hid (hG w4 (Below.refl _ _));unfold An.v at HG;have hfd:∀ (a:An) (w:World),(Instr.field 109 (.agg #[.int .i64 a.no,.int .i64 a.dev,.int .i64 a.kind,.int .i64 a.mode,.int .i64 a.uid,.int .i64 a.gid,.int .i64 a.mtime,.int .i64 a.ctime,.int .i64 a.links,.int .i64 a.up,.string a.data,.slice ea el ec]) 11).run Tryz.prog w=.ok (.slice ea el ec) w:=fun _ _=>by kernel_rfl
    have hnm:=entsOf_names HNm.out n2;rw [←getZ_ents S n2] at hidx hfind hnm;generalize S.getZ n2=a at HG hE hidx hfind hnm;have HIx:=Lib.hid (fun (x:En) (hx:x∈a.ents) w=>ridx39_any n x.name (by omega) (Nat.le_trans (hnm x hx) (by decide)) w);have HIs:=Lib.hid (fun w=>ridx39_any n s (by omega) (by omega) w);rw [hidx] at HIs;have HFi:=Lib.hid (fun w1 (hb:Below w4.heap.size w4 w1)=>rfind_any a.ents ea el ec s w1 (hE.keep hb));rw [hfind] at HFi;have hm0:=mostB_low n (a.ents.map (·.name)) 0 (Int.le_refl _) (by decide);have HE:=Lib.hid (fun w1 (hb:Below w4.heap.size w4 w1)=>hE.keep hb);have h63:=hE.sl.2.1;have h64:=hE.sl.2.2.1;obtain rfl:=hE.len;clear hidx hfind hnm hE hG;go_wp2_with fail;refine HG.out.mono ?_;rintro e w5 ⟨rfl,hb5⟩;have HB5:=Lib.hid hb5;clear hb5;go_wp2_with fail
    go_loopw [11,12] (fun t11 t12 wr=>∃ (i:Nat) (m:Int),i≤a.ents.length∧t12=.int .i64 i∧t11=.int .i64 m∧mostB n m ((a.ents.drop i).map (·.name))=mostB n 0 (a.ents.map (·.name))∧Below w4.heap.size w4 wr) (fun _ t12 _=>a.ents.length - (intOf t12).toNat)
    case atStart=>exact ⟨0,0,Nat.zero_le _,rfl,rfl,rfl,HB5.out⟩
    case round=>
     obtain⟨i,m,hi,rfl,rfl,hmm,hb⟩:=hrel;have HBr:=Lib.hid hb;by_cases hlt:i<a.ents.length
     ·have hlt2:(i:Int)<(a.ents.length:Int):=by omega
      have hi0:¬ (i:Int)<0:=by omega
      obtain⟨b,off,rfl,hbl⟩:=(HE.out _ hb).some_of (by omega);obtain⟨c1,c2⟩:=(HE.out _ hb).cell i hlt;have HM:=Lib.hid (show mostB n (max m (idxB n a.ents[i].name)) ((a.ents.drop (i+1)).map (·.name))=mostB n 0 (a.ents.map (·.name)) by rw [←hmm,List.drop_eq_getElem_cons hlt];rfl);have HI1:=Lib.hid (HIx.out a.ents[i] (List.getElem_mem hlt));generalize a.ents[i]=x at c1 c2 HM HI1;generalize idxB n x.name=k at HM HI1;clear hmm hb;go_wp2_with fail;refine (HI1.out _).mono ?_;rintro e w6 ⟨rfl,hb6⟩;have HB6:=Lib.hid (bnext HBr.out hb6);clear hb6 c1 c2;go_wp2_with fail;go_roundw
      case measure=>simp [intOf];omega
      case rel=>exact ⟨i+1,_,by omega,by go_num,rfl,HM.out,HB6.out⟩
     ·obtain rfl:i=a.ents.length:=by omega
      have hmv:m=mostB n 0 (a.ents.map (·.name)):=by rw [←hmm,List.drop_length];rfl
      rw [←hmv] at hm0 HIs;have HF1:=Lib.hid (HFi.out _ hb);have hw:IntKind.i64.wrap (m+1)=m+1:=by simp [IntKind.wrap,IntKind.bits,IntKind.signed];omega
      clear hmm hb hmv;go_wp2_with fail;refine HF1.out.mono ?_;rintro e w7 ⟨rfl,hb7⟩;have HB7:=Lib.hid (bnext HBr.out hb7);clear hb7;go_wp2_with fail;refine (HIs.out _).mono ?_;rintro e w8 ⟨rfl,hb8⟩;have HB8:=Lib.hid (bnext HB7.out hb8);clear hb8;go_wp2_with fail;refine (HAw.out _).mono ?_;rintro e w9 ⟨rfl,hb9⟩;have HB9:=Lib.hid (bnext HB2.out (bnext HB4.out (bnext HB8.out hb9)));clear hb9;go_wp2_with fail;go_ret;exact⟨rfl,HB9.out⟩
   ·have h0b:(e1 != 0)=true:=by simpa using h0
    obtain rfl:=her h0;have hbb:(ByteArray.empty.toList == [])=true:=by rw [ba_list];rfl
    clear h0 hnx her;go_wp2_with fail;refine (HAw.out _).mono ?_;rintro e w5 ⟨rfl,hb5⟩;have HB5:=Lib.hid (bnext HB2.out (bnext HB4.out hb5));clear hb5;go_wp2_with fail;go_ret;exact⟨rfl,HB5.out⟩
end
section
open Go.RowKit Go.ChangeShapes Go.WideShapes Go.ChangeAt
section
variable {H:Type} {enc:TypeId×Value→H} {w:World} {base:Nat} {spare:Nat→Bool} {held:Bool}
theorem trod_fields5 {P:Program} {t:TypeId} {fs:Array Field} {fuel:Nat} {cs:List Value} {x:DataW H×List MemPlace} (ht:P.underlying t=some (.struct fs)) (h:DataW.trod enc P w base spare held fuel t cs=some x) :
  cs.length=P.cellsOf t∧∃ n,∀ (i:Nat) (ty:TypeId) (off k:Nat) (l:List Value),(fs[i]?.map fun f=>(f.type,f.offset))=some (ty,off)→P.cellsOf ty=k→(cs.drop off).take k=l→∃ y,DataW.trod enc P w base spare held n ty l=some y:=by
 obtain⟨xs,n,-,-,h1,h2,h3⟩:=DataW.trod_struct ht h;refine ⟨h1,n,fun i ty off k l hf hk hl=>?_⟩;obtain⟨f,hf1,e⟩:=Option.map_eq_some_iff.1 hf;clear hf;injection e with e1 e2;subst e1 e2 hk hl;have hi:i<xs.length:=by
  rw [h2];exact (Array.getElem?_eq_some_iff.1 hf1).1
 exact⟨xs[i],by rw [h3 i f hf1,List.getElem?_eq_getElem hi]⟩
theorem trod_mt {fuel:Nat} {cs:List Value} {x:DataW H×List MemPlace} (h:DataW.trod enc Tryz.prog w base spare held fuel 159 cs=some x):∃ y:Mt,mtR cs y:=by
 obtain⟨h1,n,h2⟩:=trod_fields5 Tryz.underlying159 h;have hc:Tryz.prog.cellsOf 159=3:=by kernel_rfl
 have c1:Tryz.prog.cellsOf 9=1:=by kernel_rfl
 have c2:Tryz.prog.cellsOf 3=1:=by kernel_rfl
 rw [hc] at h1
 match cs,h1 with
 | [a0,a1,a2],_=>
  obtain⟨y0,k0⟩:=h2 0 9 0 1 [a0] rfl c1 rfl;obtain⟨y1,k1⟩:=h2 1 3 1 1 [a1] rfl c2 rfl;obtain⟨y2,k2⟩:=h2 2 3 2 1 [a2] rfl c2 rfl;obtain⟨s,e0,-⟩:=trod_str Tryz.underlying9 k0;obtain⟨n1,e1,-⟩:=trod_i64 Tryz.underlying3 k1;obtain⟨n2,e2,-⟩:=trod_i64 Tryz.underlying3 k2;simp at e0 e1 e2;subst e0 e1 e2;exact⟨⟨s,n1,n2⟩,rfl⟩
theorem trod_it {fuel:Nat} {cs:List Value} {x:DataW H×List MemPlace} (h:DataW.trod enc Tryz.prog w base spare held fuel 161 cs=some x):∃ y:It,itR cs y:=by
 obtain⟨h1,n,h2⟩:=trod_fields5 Tryz.underlying161 h;have hc:Tryz.prog.cellsOf 161=7:=by kernel_rfl
 have c1:Tryz.prog.cellsOf 9=1:=by kernel_rfl
 have c2:Tryz.prog.cellsOf 3=1:=by kernel_rfl
 rw [hc] at h1
 match cs,h1 with
 | [a0,a1,a2,a3,a4,a5,a6],_=>
  obtain⟨y0,k0⟩:=h2 0 9 0 1 [a0] rfl c1 rfl;obtain⟨y1,k1⟩:=h2 1 3 1 1 [a1] rfl c2 rfl;obtain⟨y2,k2⟩:=h2 2 3 2 1 [a2] rfl c2 rfl;obtain⟨y3,k3⟩:=h2 3 3 3 1 [a3] rfl c2 rfl;obtain⟨y4,k4⟩:=h2 4 3 4 1 [a4] rfl c2 rfl;obtain⟨y5,k5⟩:=h2 5 3 5 1 [a5] rfl c2 rfl;obtain⟨y6,k6⟩:=h2 6 9 6 1 [a6] rfl c1 rfl;obtain⟨s,e0,-⟩:=trod_str Tryz.underlying9 k0;obtain⟨n1,e1,-⟩:=trod_i64 Tryz.underlying3 k1;obtain⟨n2,e2,-⟩:=trod_i64 Tryz.underlying3 k2;obtain⟨n3,e3,-⟩:=trod_i64 Tryz.underlying3 k3;obtain⟨n4,e4,-⟩:=trod_i64 Tryz.underlying3 k4;obtain⟨n5,e5,-⟩:=trod_i64 Tryz.underlying3 k5;obtain⟨s6,e6,-⟩:=trod_str Tryz.underlying9 k6;simp at e0 e1 e2 e3 e4 e5 e6;subst e0 e1 e2 e3 e4 e5 e6;exact⟨⟨s,n1,n2,n3,n4,n5,s6⟩,rfl⟩
theorem trod_seed {fuel:Nat} {cs:List Value} {x:DataW H×List MemPlace} (h:DataW.trod enc Tryz.prog w base spare held fuel 25 cs=some x) :
  ∃ ma mn mc ia il ic ms is,cs=[.slice ma mn mc,.slice ia il ic]∧SdAt w ma mn mc ia il ic ms is:=by
 obtain⟨h1,n,h2⟩:=trod_fields5 Tryz.underlying25 h;have hc:Tryz.prog.cellsOf 25=2:=by kernel_rfl
 have c1:Tryz.prog.cellsOf 22=1:=by kernel_rfl
 have c2:Tryz.prog.cellsOf 23=1:=by kernel_rfl
 rw [hc] at h1
 match cs,h1 with
 | [a0,a1],_=>
  obtain⟨y0,k0⟩:=h2 0 22 0 1 [a0] rfl c1 rfl;obtain⟨y1,k1⟩:=h2 1 23 1 1 [a1] rfl c2 rfl;obtain⟨ma,mn,mc,ms,e0,hm⟩:=open_sl (R:=mtR) (sz:=3) Tryz.underlying22 (by kernel_rfl) (by decide) (fun fuel cs x h=>trod_mt h) k0;obtain⟨ia,il,ic,is,e1,hi⟩:=open_sl (R:=itR) (sz:=7) Tryz.underlying23 (by kernel_rfl) (by decide) (fun fuel cs x h=>trod_it h) k1;simp at e0 e1;subst e0 e1;exact⟨ma,mn,mc,ia,il,ic,ms,is,rfl,⟨hm,hi⟩⟩
end
end
section
open Go.RowKit Go.ChangeShapes Go.WideShapes Go.ChangeAt
section
variable {H:Type} {enc:TypeId×Value→H} {w:World} {base:Nat} {spare:Nat→Bool} {held:Bool}
theorem trod_flt {fuel:Nat} {cs:List Value} {x:DataW H×List MemPlace} (h:DataW.trod enc Tryz.prog w base spare held fuel 332 cs=some x):∃ y:Int×Int,fltR cs y:=by
 obtain⟨h1,n,h2⟩:=trod_fields5 Tryz.underlying332 h;have hc:Tryz.prog.cellsOf 332=2:=by kernel_rfl
 have c1:Tryz.prog.cellsOf 3=1:=by kernel_rfl
 have c2:Tryz.prog.cellsOf 48=1:=by kernel_rfl
 rw [hc] at h1
 match cs,h1 with
 | [a0,a1],_=>
  obtain⟨y0,k0⟩:=h2 0 3 0 1 [a0] rfl c1 rfl;obtain⟨y1,k1⟩:=h2 1 48 1 1 [a1] rfl c2 rfl;obtain⟨n0,e0,-⟩:=trod_i64 Tryz.underlying3 k0;obtain⟨n1,e1,-⟩:=trod_i64 Tryz.underlying48 k1;simp at e0 e1;subst e0 e1;exact⟨(n0,n1),rfl⟩
end
end
end Go.Proofs.YtihdbncoijhihaaGreatDoor
