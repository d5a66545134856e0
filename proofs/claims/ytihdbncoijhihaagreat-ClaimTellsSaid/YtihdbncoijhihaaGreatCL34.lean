import Derived.Test.YtihdbncoijhihaaGreatCL31
import Derived.Test.YtihdbncoijhihaaGreatCL15
import Derived.Test.YtihdbncoijhihaaGreatCL19
import Derived.Test.YtihdbncoijhihaaGreatCL33
import Derived.Test.YtihdbncoijhihaaGreatCL27
import Derived.Test.YtihdbncoijhihaaGreatCL28
import Derived.Test.YtihdbncoijhihaaGreatCL23
import Derived.Test.YtihdbncoijhihaaGreatCL29
import Derived.Test.YtihdbncoijhihaaGreatCL17
set_option linter.unusedVariables false
set_option linter.unusedSimpArgs false
set_option maxRecDepth 100000
set_option maxHeartbeats 16000000
namespace Go.Proofs.YtihdbncoijhihaaGreat
section
open Go.RowKit
theorem ropen_results {tmps:Array Value} {W:World} {B:Nat} {a:An} {ea:Option Addr} {el ec:Nat} {e:Int} (hb:Blk W B #[.int .i64 a.no,.int .i64 a.dev,.int .i64 a.kind,.int .i64 a.mode,.int .i64 a.uid,.int .i64 a.gid,.int .i64 a.mtime,.int .i64 a.ctime,.int .i64 a.links,.int .i64 a.up,.string a.data,.slice ea el ec] 49)
  (h8:tmps.getD 10 undef=.pointer (some ⟨B,0,none⟩)) (h9:tmps.getD 11 undef=.int .i64 e):(results Tryz.f215 tmps).run Tryz.prog W=.ok (.tuple #[a.v ea el ec,.int .i64 e]) W:=by
 obtain⟨q0,q1,q2,q3,q4,q5,q6,q7,q8,q9,q10,q11⟩:=hb.cells12;rw [Array.getD_eq_getD_getElem?] at h8 h9;simp [results,Tryz.results215,go_sem,An.v,h8,h9,q0,q1,q2,q3,q4,q5,q6,q7,q8,q9,q10,q11]
theorem openE_Z {S:Fs} {N:Nat} (hk:FsOk S N) (c:Cr) (no kind want:Int):S.openE c no kind want=if (S.getZ no).no=0 then 5 else if (S.getZ no).kind≠kind then (if kind=1 then 9 else if (S.getZ no).kind=1 then 8 else 1) else if (S.getZ no).may c want=false then 6 else 0:=by
 unfold Fs.openE
 cases hg:S.get no with
 | none=>rw [getZ_none hg];rfl
 | some a=>
  rw [getZ_some hg];have h1:=(hk.get hg).2;dsimp only;rw [if_neg (show ¬ a.no=0 by omega)];by_cases h2:a.kind=kind
  ·rw [if_pos h2,if_neg (show ¬ a.kind≠kind from fun h=>h h2)]
   cases a.may c want <;> rfl
  ·rw [if_neg h2,if_pos h2]
section
variable {w w':World} {pf:Nat} {R:Rf} {S:Fs}
theorem ropen_any (h:RfAt w pf R S) {N:Nat} (hk:FsOk S N) (c:Cr) (no kind want:Int) (hw:0≤want∧want≤7) :
  Calls Tryz.prog 215 #[.pointer (some ⟨pf,0,none⟩),.agg #[.int .i64 c.u,.int .i64 c.g],.int .i64 no,.int .i64 kind,.int .i64 want] w fun e w'=>((S.openE c no kind want≠0∧e=.returned (.tuple #[an0.v none 0 0,.int .i64 (S.openE c no kind want)]))∨(S.openE c no kind want=0∧∃ d ea el ec,S.get no=some d∧e=.returned (.tuple #[d.v ea el ec,.int .i64 0])∧EntsAt w ea el ec d.ents))∧Below w.heap.size w w':=by
 have hCX:=(Blk.new w #[.int .i64 c.u,.int .i64 c.g] 67).old (.cells #[.int .i64 0,.int .i64 0,.int .i64 0,.int .i64 0,.int .i64 0,.int .i64 0,.int .i64 0,.int .i64 0,.int .i64 0,.int .i64 0,.string ⟨#[]⟩,.slice none 0 0] 49);have hRX:Blk ((w.alloc (.cells #[.int .i64 c.u,.int .i64 c.g] 67)).alloc (.cells #[.int .i64 0,.int .i64 0,.int .i64 0,.int .i64 0,.int .i64 0,.int .i64 0,.int .i64 0,.int .i64 0,.int .i64 0,.int .i64 0,.string ⟨#[]⟩,.slice none 0 0] 49)) (w.heap.size+1) #[.int .i64 0,.int .i64 0,.int .i64 0,.int .i64 0,.int .i64 0,.int .i64 0,.int .i64 0,.int .i64 0,.int .i64 0,.int .i64 0,.string ⟨#[]⟩,.slice none 0 0] 49:=by
  have:=Blk.new (w.alloc (.cells #[.int .i64 c.u,.int .i64 c.g] 67)) #[.int .i64 0,.int .i64 0,.int .i64 0,.int .i64 0,.int .i64 0,.int .i64 0,.int .i64 0,.int .i64 0,.int .i64 0,.int .i64 0,.string ⟨#[]⟩,.slice none 0 0] 49
  rwa [World.size_alloc] at this
 have hbX:=balloc (balloc (Below.refl w.heap.size w) (.cells #[.int .i64 c.u,.int .i64 c.g] 67)) (.cells #[.int .i64 0,.int .i64 0,.int .i64 0,.int .i64 0,.int .i64 0,.int .i64 0,.int .i64 0,.int .i64 0,.int .i64 0,.int .i64 0,.string ⟨#[]⟩,.slice none 0 0] 49);obtain⟨ea,el,ec,he,hG⟩:=rgetZ_fix h no;have HG:=Lib.hid hG;have HQ:=Lib.hid (openE_Z hk c no kind want);have HZ:=Lib.hid (fun (h0:(S.getZ no).no≠0)=>show ∃ d ea el ec,S.get no=some d∧_ from by
  rcases getZ_cases S no with ⟨a,h1,h2⟩|⟨-,h2⟩
  ·exact ⟨S.getZ no,ea,el,ec,by rw [h2];exact h1,(⟨rfl,he⟩:(S.getZ no).v ea el ec=(S.getZ no).v ea el ec∧EntsAt w ea el ec (S.getZ no).ents)⟩
  ·exact absurd (by rw [h2];rfl) h0)
 have HSm:=Lib.hid (fun (h0:(S.getZ no).no≠0)=>show S.get no=some (S.getZ no) from by
  rcases getZ_cases S no with ⟨a,h1,h2⟩|⟨-,h2⟩
  ·rw [h2];exact h1
  ·exact absurd (by rw [h2];rfl) h0)
 clear HZ;have HE0:=Lib.hid he;have HNd:=Lib.hid (fun w=>rnodeG_any c (S.getZ no) ea el ec want (getZ_mode hk no) hw w);unfold An.v at HG HNd;generalize S.openE c no kind want=oe at HQ ⊢;generalize S.getZ no=z at HG HQ HSm HE0 HNd;clear h hk hG he hw;go_enter Tryz.func215,Tryz.ntmps215;go_upto_region 1 with fail;generalize (w.alloc (.cells #[.int .i64 c.u,.int .i64 c.g] 67)).alloc (.cells #[.int .i64 0,.int .i64 0,.int .i64 0,.int .i64 0,.int .i64 0,.int .i64 0,.int .i64 0,.int .i64 0,.int .i64 0,.int .i64 0,.string ⟨#[]⟩,.slice none 0 0] 49)=W0 at hRX hCX hbX ⊢;have HRX:=Lib.hid hRX;have HBX:=Lib.hid hbX;have HCX:=Lib.hid hCX;clear hRX hbX hCX;go_wp2_with fail;refine (HG.out _ HBX.out).mono ?_;rintro e w1 ⟨rfl,hb1⟩;have hRY:=(HRX.out.keep hb1).old (.cells #[.int .i64 z.no,.int .i64 z.dev,.int .i64 z.kind,.int .i64 z.mode,.int .i64 z.uid,.int .i64 z.gid,.int .i64 z.mtime,.int .i64 z.ctime,.int .i64 z.links,.int .i64 z.up,.string z.data,.slice ea el ec] 49);have hCY:=(HCX.out.keep hb1).old (.cells #[.int .i64 z.no,.int .i64 z.dev,.int .i64 z.kind,.int .i64 z.mode,.int .i64 z.uid,.int .i64 z.gid,.int .i64 z.mtime,.int .i64 z.ctime,.int .i64 z.links,.int .i64 z.up,.string z.data,.slice ea el ec] 49);have hbY:=balloc (bnext HBX.out hb1) (.cells #[.int .i64 z.no,.int .i64 z.dev,.int .i64 z.kind,.int .i64 z.mode,.int .i64 z.uid,.int .i64 z.gid,.int .i64 z.mtime,.int .i64 z.ctime,.int .i64 z.links,.int .i64 z.up,.string z.data,.slice ea el ec] 49);have hDY:=Blk.new w1 #[.int .i64 z.no,.int .i64 z.dev,.int .i64 z.kind,.int .i64 z.mode,.int .i64 z.uid,.int .i64 z.gid,.int .i64 z.mtime,.int .i64 z.ctime,.int .i64 z.links,.int .i64 z.up,.string z.data,.slice ea el ec] 49;clear hb1;go_upto_region 2 with fail;generalize w1.alloc (.cells #[.int .i64 z.no,.int .i64 z.dev,.int .i64 z.kind,.int .i64 z.mode,.int .i64 z.uid,.int .i64 z.gid,.int .i64 z.mtime,.int .i64 z.ctime,.int .i64 z.links,.int .i64 z.up,.string z.data,.slice ea el ec] 49)=Y at hRY hbY hDY hCY ⊢;have HRY:=Lib.hid hRY;have HBY:=Lib.hid hbY;have HDY:=Lib.hid hDY;obtain⟨rc,rf,rz⟩:=hRY.facts;obtain⟨dc,df,dz⟩:=hDY.facts;obtain⟨cc,-,-⟩:=hCY.facts;clear hRY hbY hDY hCY;by_cases h0:z.no=0
 ·have h0':(z.no == 0)=true:=by simpa using h0
  have HE:=Lib.hid (HQ.out.trans (if_pos h0));clear h0 HQ;go_wp2_with (exact bodyPost_ret (ropen_results (a:=an0) HRY.out.set12 rfl rfl) rfl ⟨.inl ⟨by rw [HE.out];decide,by rw [HE.out]⟩,below_set12 HBY.out (Nat.le_succ _)⟩)
 ·have h0':(z.no == 0)=false:=by simpa using h0
  have HQ0:=Lib.hid (HQ.out.trans (if_neg h0));have HS0:=Lib.hid (HSm.out h0);clear h0 HQ HSm;by_cases h1:z.kind=kind
  ·have h1':(z.kind != kind)=false:=by simpa using h1
   have HQ1:=Lib.hid (HQ0.out.trans (if_neg (by simpa using h1)));clear h1 HQ0;go_wp2_with fail;refine (HNd.out _).mono ?_;rintro e w5 ⟨rfl,hb5⟩;have hRZ:=HRY.out.keep hb5;have hDZ:=HDY.out.keep hb5;have HRZ:=Lib.hid hRZ;have HBZ:=Lib.hid (bnext HBY.out hb5);clear rc rf rz dc df dz cc hb5;obtain⟨rc,rf,rz⟩:=hRZ.facts;obtain⟨dc,df,dz⟩:=hDZ.facts;clear hRZ hDZ
   cases hm:z.may c want with
   | true=>
    have HE:=Lib.hid (HQ1.out.trans (if_neg (by rw [hm];decide)));clear hm;go_wp2_with (exact bodyPost_ret (ropen_results (a:=z) (ea:=ea) (el:=el) (ec:=ec) HRZ.out.set12 rfl rfl) rfl ⟨.inr ⟨HE.out,z,ea,el,ec,HS0.out,rfl,HE0.out⟩,below_set12 HBZ.out (Nat.le_succ _)⟩)
   | false=>
    have HE:=Lib.hid (HQ1.out.trans (if_pos hm));clear hm;go_wp2_with (exact bodyPost_ret (ropen_results (a:=an0) HRZ.out.set12 rfl rfl) rfl ⟨.inl ⟨by rw [HE.out];decide,by rw [HE.out]⟩,below_set12 HBZ.out (Nat.le_succ _)⟩)
  ·have h1':(z.kind != kind)=true:=by simpa using h1
   have HQ1:=Lib.hid (HQ0.out.trans (if_pos h1));clear h1 HQ0;by_cases h2:kind=1
   ·have h2':(kind == 1)=true:=by simpa using h2
    have HE:=Lib.hid (HQ1.out.trans (if_pos h2));clear h2;go_wp2_with (exact bodyPost_ret (ropen_results (a:=an0) HRY.out.set12 rfl rfl) rfl ⟨.inl ⟨by rw [HE.out];decide,by rw [HE.out]⟩,below_set12 HBY.out (Nat.le_succ _)⟩)
   ·have h2':(kind == 1)=false:=by simpa using h2
    have HQ2:=Lib.hid (HQ1.out.trans (if_neg h2));clear h2 HQ1;by_cases h3:z.kind=1
    ·have h3':(z.kind == 1)=true:=by simpa using h3
     have HE:=Lib.hid (HQ2.out.trans (if_pos h3));clear h3;go_wp2_with (exact bodyPost_ret (ropen_results (a:=an0) HRY.out.set12 rfl rfl) rfl ⟨.inl ⟨by rw [HE.out];decide,by rw [HE.out]⟩,below_set12 HBY.out (Nat.le_succ _)⟩)
    ·have h3':(z.kind == 1)=false:=by simpa using h3
     have HE:=Lib.hid (HQ2.out.trans (if_neg h3));clear h3;go_wp2_with (exact bodyPost_ret (ropen_results (a:=an0) HRY.out.set12 rfl rfl) rfl ⟨.inl ⟨by rw [HE.out];decide,by rw [HE.out]⟩,below_set12 HBY.out (Nat.le_succ _)⟩)
theorem rlook14_any (h:RfAt w pf R S) {N:Nat} (hk:FsOk S N) (c:Cr) (dir:Int) (n:ByteArray) :
  Calls Tryz.prog 155 #[.pointer (some ⟨pf,0,none⟩),.agg #[.int .i64 c.u,.int .i64 c.g],.int .i64 dir,.string n] w fun e w'=>e=.returned (.tuple #[.int .i64 (S.lookF false c dir n).1,.int .i64 (S.lookF false c dir n).2])∧Below w.heap.size w w':=by
 have HO:=Lib.hid (fun w1 (hb1:Below w.heap.size w w1)=>ropen_any (h.keep hb1) hk c dir 1 1 (by decide));have HOv:=Lib.hid (fun w1 (hb1:Below w.heap.size w w1) k=>rover_any (h.keep hb1) k);have HR:=Lib.hid (show S.lookF false c dir n=if S.openE c dir 1 1≠0 then (0,S.openE c dir 1 1) else if entFind (S.entsOf dir) n=0 then (0,5) else (S.over (entFind (S.entsOf dir) n),0) by unfold Fs.lookF;rw [if_neg (by decide)]);generalize S.lookF false c dir n=rd at HR ⊢;have hbc:=balloc (Below.refl w.heap.size w) (.cells #[.int .i64 c.u,.int .i64 c.g] 67);clear h hk;go_enter Tryz.func155,Tryz.ntmps155;go_wp2_with fail;refine (HO.out _ hbc).mono ?_;rintro e w1 ⟨⟨h0,rfl⟩|⟨h0,d,ea,el,ec,hg,rfl,he⟩,hb1⟩
 ·have HB:=Lib.hid (bnext hbc hb1);have HE:=Lib.hid (HR.out.trans (if_pos h0));have h0':(S.openE c dir 1 1 != 0)=true:=by simpa using h0
  generalize S.openE c dir 1 1=oe at HE h0' ⊢;unfold An.v an0;clear h0 hb1 hbc;go_wp2_with fail;go_ret2;rw [HE.out];exact⟨rfl,balloc HB.out _⟩
 ·have hb2:=bnext hbc hb1;have hen:S.entsOf dir=d.ents:=by
   unfold Fs.entsOf;rw [hg]
  have HE:=Lib.hid (show rd=if entFind d.ents n=0 then (0,5) else (S.over (entFind d.ents n),0) by rw [HR.out,if_neg (by simpa using h0),hen]);have HF:=Lib.hid (fun w2 (hb2:Below w1.heap.size w1 w2)=>rfind_any d.ents ea el ec n w2 ((he.keep hb1).keep hb2));have hX:=Blk.new w1 #[.int .i64 d.no,.int .i64 d.dev,.int .i64 d.kind,.int .i64 d.mode,.int .i64 d.uid,.int .i64 d.gid,.int .i64 d.mtime,.int .i64 d.ctime,.int .i64 d.links,.int .i64 d.up,.string d.data,.slice ea el ec] 49;have hbX:=balloc (Below.refl w1.heap.size w1) (.cells #[.int .i64 d.no,.int .i64 d.dev,.int .i64 d.kind,.int .i64 d.mode,.int .i64 d.uid,.int .i64 d.gid,.int .i64 d.mtime,.int .i64 d.ctime,.int .i64 d.links,.int .i64 d.up,.string d.data,.slice ea el ec] 49);have HB2:=Lib.hid hb2;unfold An.v;clear h0 hb1 hbc hb2 hen he hg;go_upto_region 2 with fail;generalize w1.alloc (.cells #[.int .i64 d.no,.int .i64 d.dev,.int .i64 d.kind,.int .i64 d.mode,.int .i64 d.uid,.int .i64 d.gid,.int .i64 d.mtime,.int .i64 d.ctime,.int .i64 d.links,.int .i64 d.up,.string d.data,.slice ea el ec] 49)=X at hX hbX ⊢;have HBX:=Lib.hid hbX;have HBW:=Lib.hid (HB2.out.trans (hbX.mono HB2.out.size));obtain⟨xc,xf,xz⟩:=hX.facts;clear hX hbX;generalize entFind d.ents n=f at HE HF;go_wp2_with fail;refine (HF.out _ HBX.out).mono ?_;rintro e w2 ⟨rfl,hb2⟩;have HB3:=Lib.hid (bnext HBW.out hb2);clear hb2 xc xf xz;by_cases hf:f=0
  ·have HE1:=Lib.hid (HE.out.trans (if_pos hf));have hf1:(f == 0)=true:=by simpa using hf
   clear hf;go_wp2_with fail;go_ret2;rw [HE1.out];exact⟨rfl,HB3.out⟩
  ·have HE1:=Lib.hid (HE.out.trans (if_neg hf));have hf1:(f == 0)=false:=by simpa using hf
   clear hf;go_wp2_with fail;refine (HOv.out _ HB3.out _).mono ?_;rintro e w3 ⟨rfl,rfl⟩;go_wp2_with fail;go_ret2;rw [HE1.out];exact⟨rfl,HB3.out⟩
theorem rlook_any (h:RfAt w pf R S) {N:Nat} (hk:FsOk S N) {d:Bool} (hd:R.dd=.bool d) (c:Cr) (dir:Int) (n:ByteArray) :
  Calls Tryz.prog 97 #[.pointer (some ⟨pf,0,none⟩),.agg #[.int .i64 c.u,.int .i64 c.g],.int .i64 dir,.string n] w fun e w'=>e=.returned (.tuple #[.int .i64 (S.lookF d c dir n).1,.int .i64 (S.lookF d c dir n).2])∧Below w.heap.size w w':=by
 have hCX:=Blk.new w #[.int .i64 c.u,.int .i64 c.g] 67;have hbX:=balloc (Below.refl w.heap.size w) (.cells #[.int .i64 c.u,.int .i64 c.g] 67);have HS:=Lib.hid (fun w1 (hb1:Below w.heap.size w w1)=>rlook14_any (h.keep hb1) hk c dir n);have hblk:=h.blk;rw [hd] at hblk;have hblk2:=hblk.old (.cells #[.int .i64 c.u,.int .i64 c.g] 67);obtain⟨pc,pf',pz⟩:=hblk2.facts;obtain⟨cc,-,cz⟩:=hCX.facts;clear h hk hd hblk hblk2 hCX
 cases d with
 | true=>
  clear HS;go_enter Tryz.func97,Tryz.ntmps97;go_wp2_with fail;go_ret2;exact⟨rfl,hbX⟩
 | false=>
  generalize S.lookF false c dir n=rd at HS ⊢;have HBX:=Lib.hid hbX;clear hbX;go_enter Tryz.func97,Tryz.ntmps97;go_wp2_with fail;refine (HS.out _ HBX.out).mono ?_;rintro e w1 ⟨rfl,hb1⟩;have HB:=Lib.hid (bnext HBX.out hb1);clear hb1;go_wp2_with fail;go_ret2;exact⟨rfl,HB.out⟩
theorem rcred_any (u g:Int) (t:ByteArray) (w:World) :
  Calls Tryz.prog 25 #[.agg #[.int .i64 u,.int .i64 g,.string t]] w fun e w'=>e=.returned (.agg #[.int .i64 u,.int .i64 g])∧Below w.heap.size w w':=by
 go_enter Tryz.func25,Tryz.ntmps25;go_wp2_with fail
 go_returns
 exact⟨rfl,by go_grown⟩
theorem rown_any (h:RfAt w pf R S) {N:Nat} (hk:FsOk S N) {d:Bool} (hd:R.dd=.bool d) (u g:Int) (t:ByteArray) (dir:Int) (n:ByteArray) :
  Calls Tryz.prog 152 #[.pointer (some ⟨pf,0,none⟩),.agg #[.int .i64 u,.int .i64 g,.string t],.int .i64 dir,.string n] w fun e w'=>e=.returned (.tuple #[.int .i64 (S.ownF d ⟨u,g⟩ dir n).1,.int .i64 (S.ownF d ⟨u,g⟩ dir n).2])∧Below w.heap.size w w':=by
 have hX:=Blk.new w #[.int .i64 u,.int .i64 g,.string t] 27;have hbX:=balloc (Below.refl w.heap.size w) (.cells #[.int .i64 u,.int .i64 g,.string t] 27);have HC:=Lib.hid (rcred_any u g t);have HL:=Lib.hid (fun w1 (hb1:Below w.heap.size w w1)=>rlook_any (h.keep hb1) hk hd ⟨u,g⟩ dir n);have HG:=Lib.hid (fun w1 (hb1:Below w.heap.size w w1) k=>rgetZ_fix (h.keep hb1) k);have HMo:=Lib.hid (fun k=>getZ_mode hk k);have HR:=Lib.hid (show S.ownF d ⟨u,g⟩ dir n=if (S.lookF d ⟨u,g⟩ dir n).2=5 then (0,0) else if (S.lookF d ⟨u,g⟩ dir n).2≠0 then (0,(S.lookF d ⟨u,g⟩ dir n).2) else ownV ⟨u,g⟩ (S.getZ (S.lookF d ⟨u,g⟩ dir n).1) (S.getZ dir) (S.lookF d ⟨u,g⟩ dir n).1 from rfl);generalize S.ownF d ⟨u,g⟩ dir n=rd at HR ⊢;generalize S.lookF d ⟨u,g⟩ dir n=r at HR HL;obtain⟨no,e1⟩:=r;dsimp only at HR HL;clear h hk hd;go_enter Tryz.func152,Tryz.ntmps152;go_upto_region 1 with fail;generalize w.alloc (.cells #[.int .i64 u,.int .i64 g,.string t] 27)=W0 at hX hbX ⊢;have HX:=Lib.hid hX;have HBX:=Lib.hid hbX;obtain⟨xc,xf,xz⟩:=hX.facts;clear hX hbX;go_wp2_with fail;refine (HC.out _).mono ?_;rintro e w1 ⟨rfl,hb1⟩;have HB1:=Lib.hid (bnext HBX.out hb1);have HX1:=Lib.hid (HX.out.keep hb1);clear hb1 xc xf xz;go_wp2_with fail;refine (HL.out _ HB1.out).mono ?_;rintro e w2 ⟨rfl,hb2⟩;have HB2:=Lib.hid (bnext HB1.out hb2);have HX2:=Lib.hid (HX1.out.keep hb2);clear hb2;by_cases h5:e1=5
 ·subst h5;have HE:=Lib.hid (HR.out.trans (if_pos rfl));go_wp2_with fail;go_ret2;rw [HE.out];exact⟨rfl,HB2.out⟩
 ·have h5':(e1 == 5)=false:=by simpa using h5
  by_cases h0:e1=0
  ·subst h0;have HE:=Lib.hid (HR.out.trans ((if_neg (by decide)).trans (if_neg (by decide))));obtain⟨ea,el,ec,-,hG1⟩:=HG.out _ HB2.out no;have HG1:=Lib.hid hG1;have HM1:=Lib.hid (HMo.out no);unfold An.v at HG1;generalize S.getZ no=x at HE HG1 HM1;clear hG1 h5 h5';go_wp2_with fail;refine (HG1.out _ (Below.refl _ _)).mono ?_;rintro e w3 ⟨rfl,hb3⟩;have hb4:=balloc (bnext HB2.out hb3) (.cells #[.int .i64 x.no,.int .i64 x.dev,.int .i64 x.kind,.int .i64 x.mode,.int .i64 x.uid,.int .i64 x.gid,.int .i64 x.mtime,.int .i64 x.ctime,.int .i64 x.links,.int .i64 x.up,.string x.data,.slice ea el ec] 49);have hN4:=Blk.new w3 #[.int .i64 x.no,.int .i64 x.dev,.int .i64 x.kind,.int .i64 x.mode,.int .i64 x.uid,.int .i64 x.gid,.int .i64 x.mtime,.int .i64 x.ctime,.int .i64 x.links,.int .i64 x.up,.string x.data,.slice ea el ec] 49;have hX4:=(HX2.out.keep hb3).old (.cells #[.int .i64 x.no,.int .i64 x.dev,.int .i64 x.kind,.int .i64 x.mode,.int .i64 x.uid,.int .i64 x.gid,.int .i64 x.mtime,.int .i64 x.ctime,.int .i64 x.links,.int .i64 x.up,.string x.data,.slice ea el ec] 49);clear hb3;go_upto_region 7 with fail;generalize w3.alloc (.cells #[.int .i64 x.no,.int .i64 x.dev,.int .i64 x.kind,.int .i64 x.mode,.int .i64 x.uid,.int .i64 x.gid,.int .i64 x.mtime,.int .i64 x.ctime,.int .i64 x.links,.int .i64 x.up,.string x.data,.slice ea el ec] 49)=W4 at hb4 hN4 hX4 ⊢;have HB4:=Lib.hid hb4;have HN4:=Lib.hid hN4;have HX4:=Lib.hid hX4;obtain⟨fa,fl,fc,-,hG2⟩:=HG.out _ HB4.out dir;have HG2:=Lib.hid hG2;unfold An.v at HG2;generalize S.getZ dir=y at HE HG2;obtain⟨nc,nf,nz⟩:=hN4.facts;clear hG2 hb4 hN4 hX4;unfold ownV at HE;by_cases h1:x.kind=1
   ·have h1':(x.kind != 1)=false:=by simpa using h1
    have hfd:∀ w,(Instr.field 49 (.agg #[.int .i64 y.no,.int .i64 y.dev,.int .i64 y.kind,.int .i64 y.mode,.int .i64 y.uid,.int .i64 y.gid,.int .i64 y.mtime,.int .i64 y.ctime,.int .i64 y.links,.int .i64 y.up,.string y.data,.slice fa fl fc]) 1).run Tryz.prog w=.ok (.int .i64 y.dev) w:=fun _=>by kernel_rfl
    have HE1:=Lib.hid (HE.out.trans (if_neg (by simpa using h1)));go_wp2_with fail
    go_region_held3 (fun w'=>(∀ b o,b<W4.heap.size→w'.cell? ⟨b,o,none⟩=W4.cell? ⟨b,o,none⟩)∧Below W4.heap.size W4 w') (first | with_reducible assumption | with_reducible exact keepS_here _ | with_reducible exact keepS_here2 _ | with_reducible exact keepS_call (by assumption) (by assumption) | with_reducible exact keepS_alloc (by assumption) _ | with_reducible exact keepS_allocD (by assumption) _ | with_reducible exact keepS_realloc (by assumption) (by assumption) | with_reducible exact keepS_set4 (by assumption) (by assumption))
     ((first
      | (go_at_call 67;((with_reducible refine (HG2.out _ (And.right (by assumption))).mono ?_);rintro e w5 ⟨rfl,hb5⟩))))
    all_goals
     have hbz:Below W4.heap.size W4 w5:=And.right (by assumption);have HBZ:=Lib.hid (bnext HB4.out hbz);have hN5:=HN4.out.keep hbz;have hX5:=HX4.out.keep hbz;clear hbz nc nf nz;obtain⟨nc,nf,nz⟩:=hN5.facts;obtain⟨xc,xf,xz⟩:=hX5.facts;clear hN5 hX5;by_cases h2:x.dev=y.dev
     ·have h2':(x.dev != y.dev)=false:=by simpa using h2
      have HE2:=Lib.hid (HE1.out.trans (if_neg (by simpa using h2)));by_cases h3:x.uid=u
      ·have h3':(x.uid != u)=false:=by simpa using h3
       have HE3:=Lib.hid (HE2.out.trans (if_neg (by simpa using h3)));have HNd:=Lib.hid (fun w=>rnodeG_any ⟨u,g⟩ x ea el ec 7 HM1.out (by decide) w);unfold An.v at HNd;generalize x.may ⟨u,g⟩ 7=m at HE3 HNd;clear h1 h2 h3;go_wp2_with fail
       go_region_held3 (fun w'=>(∀ b o,b<w5.heap.size→w'.cell? ⟨b,o,none⟩=w5.cell? ⟨b,o,none⟩)∧Below w5.heap.size w5 w') (first | with_reducible assumption | with_reducible exact keepS_here _ | with_reducible exact keepS_here2 _ | with_reducible exact keepS_call (by assumption) (by assumption) | with_reducible exact keepS_alloc (by assumption) _ | with_reducible exact keepS_allocD (by assumption) _ | with_reducible exact keepS_realloc (by assumption) (by assumption) | with_reducible exact keepS_set4 (by assumption) (by assumption))
        ((first
         | (go_at_call 25;((with_reducible refine (HC.out _).mono ?_);rintro e w7 ⟨rfl,hb7⟩))
         | (go_at_call 214;((with_reducible refine (HNd.out _).mono ?_);rintro e w8 ⟨rfl,hb8⟩))))
       all_goals
        have hbz:Below w5.heap.size w5 w8:=And.right (by assumption);have HBV:=Lib.hid (bnext HBZ.out hbz);clear hbz
        cases m with
        | false=>
         have HE4:=Lib.hid (HE3.out.trans (if_pos rfl));go_wp2_with fail;go_ret2;rw [HE4.out];exact⟨rfl,HBV.out⟩
        | true=>
         have HE4:=Lib.hid (HE3.out.trans (if_neg (by decide)));go_wp2_with fail;go_ret2;rw [HE4.out];exact⟨rfl,HBV.out⟩
      ·have h3':(x.uid != u)=true:=by simpa using h3
       have HE3:=Lib.hid (HE2.out.trans (if_pos h3));clear h1 h2 h3;go_wp2_with fail;go_ret2;rw [HE3.out];exact⟨rfl,HBZ.out⟩
     ·have h2':(x.dev != y.dev)=true:=by simpa using h2
      have HE2:=Lib.hid (HE1.out.trans (if_pos h2));clear h1 h2;go_wp2_with fail;go_ret2;rw [HE2.out];exact⟨rfl,HBZ.out⟩
   ·have h1':(x.kind != 1)=true:=by simpa using h1
    have HE2:=Lib.hid (HE.out.trans (if_pos h1));clear h1;go_wp2_with fail;go_ret2;rw [HE2.out];exact⟨rfl,HB4.out⟩
  ·have h0':(e1 != 0)=true:=by simpa using h0
   have HE:=Lib.hid (HR.out.trans ((if_neg h5).trans (if_pos h0)));clear h0 h5;go_wp2_with fail;go_ret2;rw [HE.out];exact⟨rfl,HB2.out⟩
theorem rthere_any (h:RfAt w pf R S) {N:Nat} (hk:FsOk S N) {d:Bool} (hd:R.dd=.bool d) (u g:Int) (t:ByteArray) (dir:Int) (n:ByteArray) :
  Calls Tryz.prog 151 #[.pointer (some ⟨pf,0,none⟩),.agg #[.int .i64 u,.int .i64 g,.string t],.int .i64 dir,.string n] w fun e w'=>e=.returned (.tuple #[.int .i64 (thereV (S.ownF d ⟨u,g⟩ dir n)).1,.int .i64 (thereV (S.ownF d ⟨u,g⟩ dir n)).2])∧Below w.heap.size w w':=by
 have hbX:=balloc (Below.refl w.heap.size w) (.cells #[.int .i64 u,.int .i64 g,.string t] 27);have HO:=Lib.hid (fun w1 (hb1:Below w.heap.size w w1)=>rown_any (h.keep hb1) hk hd u g t dir n);generalize S.ownF d ⟨u,g⟩ dir n=r at HO ⊢;obtain⟨no,e1⟩:=r;dsimp only at HO;have HR:=Lib.hid (show thereV (no,e1)=if e1=0∧no=0 then (0,5) else (no,e1) from rfl);generalize thereV (no,e1)=rd at HR ⊢;have HBX:=Lib.hid hbX;clear h hk hd hbX;go_enter Tryz.func151,Tryz.ntmps151;go_wp2_with fail;refine (HO.out _ HBX.out).mono ?_;rintro e w2 ⟨rfl,hb2⟩;have HB2:=Lib.hid (bnext HBX.out hb2);clear hb2;by_cases h0:e1=0
 ·subst h0;by_cases hn:no=0
  ·subst hn;have HE:=Lib.hid (HR.out.trans (if_pos ⟨rfl,rfl⟩));go_wp2_with fail;go_ret2;rw [HE.out];exact⟨rfl,HB2.out⟩
  ·have hn':(no == 0)=false:=by simpa using hn
   have HE:=Lib.hid (HR.out.trans (if_neg (by simpa using hn)));go_wp2_with fail;go_ret2;rw [HE.out];exact⟨rfl,HB2.out⟩
 ·have h0':(e1 == 0)=false:=by simpa using h0
  have HE:=Lib.hid (HR.out.trans (if_neg (by simp [h0])));go_wp2_with fail;go_ret2;rw [HE.out];exact⟨rfl,HB2.out⟩
end
end
section
open Go.RowKit
section
variable {w w':World} {B pf:Nat} {R:Rf} {Y:Sy}
theorem nums_few:∀ (l:List Int) (a b:Int),l.Pairwise (· < ·)→(∀ x∈l,a≤x∧x≤b)→l.length≤(b+1 - a).toNat
 | [],_,_,_,_=>Nat.zero_le _
 | x :: l,a,b,h,hx=>by
  obtain⟨h1,h2⟩:=List.pairwise_cons.1 h;have h3:=nums_few l (x+1) b h2 (fun y hy=>⟨h1 y hy,(hx y (by simp [hy])).2⟩);have h4:=hx x (by simp);simp only [List.length_cons];omega
theorem SyOk.many {N:Nat} (h:SyOk Y N):Y.fs.ns.length≤N:=by
 have h1:=nums_few (Y.fs.ns.map (·.no)) 1 Y.fs.last h.fine.ok.nums.rise (fun x hx=>by
  obtain⟨a,ha,rfl⟩:=List.mem_map.1 hx;exact h.fine.ok.nums.low a ha)
 have h2:=h.fine.ok.lN;simp only [List.length_map] at h1;omega
theorem rdir30_any (h:RyAt w B pf R Y) {N:Nat} (hk:SyOk Y N) (hN:N≤90000) (u:Us) (dir:Int) (n:ByteArray) (hn:n.size≤100000) :
  Calls Tryz.prog 130 #[.pointer (some ⟨pf,0,none⟩),.agg #[.int .i64 u.u,.int .i64 u.g,.string u.data],.int .i64 dir,.string n] w fun e w'=>
   e=.returned (.tuple #[.int .i64 (Y.dirF u dir n).2.1,.int .i64 (Y.dirF u dir n).2.2])∧GoesR w w' B pf R (Y.dirF u dir n).1:=by
 obtain⟨u,g,t⟩:=u;dsimp only;have hX:=Blk.new w #[.int .i64 u,.int .i64 g,.string t] 27;have hbX:=balloc (Below.refl w.heap.size w) (.cells #[.int .i64 u,.int .i64 g,.string t] 27);have HC:=Lib.hid (rcred_any u g t);have HO:=Lib.hid (fun w1 (hb1:Below w.heap.size w w1)=>rown_any (h.r.keep hb1) hk.fine.ok h.dd u g t dir n);have HM:=Lib.hid (fun w1 (hb1:Below w.heap.size w w1)=>rmkdir21_any (h.keep hb1) hk.fine.ok (by omega) (Nat.le_trans hk.many (by omega)) ⟨hk.c0,by have:=hk.cN;omega⟩ (by have:=hk.pl;omega) ⟨u,g⟩ dir n hn 448);have HG:=Lib.hid (fun w1 (hb1:Below w.heap.size w w1)=>GoesR.of h hb1);have HR:=Lib.hid (show Y.dirF ⟨u,g,t⟩ dir n=if (Y.fs.ownF Y.dead ⟨u,g⟩ dir n).2=0∧(Y.fs.ownF Y.dead ⟨u,g⟩ dir n).1=0 then Y.op (fun S now=>S.mkdir ⟨u,g⟩ now dir n 448) else (Y,Y.fs.ownF Y.dead ⟨u,g⟩ dir n) from rfl);generalize Y.dirF ⟨u,g,t⟩ dir n=rd at HR ⊢;generalize Y.fs.ownF Y.dead ⟨u,g⟩ dir n=r at HR HO;generalize Y.op (fun S now=>S.mkdir ⟨u,g⟩ now dir n 448)=q at HR HM;obtain⟨no,e1⟩:=r;dsimp only at HR HO;clear h hk;go_enter Tryz.func130,Tryz.ntmps130;go_upto_region 1 with fail;generalize w.alloc (.cells #[.int .i64 u,.int .i64 g,.string t] 27)=W0 at hX hbX ⊢;have HX:=Lib.hid hX;have HBX:=Lib.hid hbX;obtain⟨xc,xf,xz⟩:=hX.facts;clear hX hbX;go_wp2_with fail;refine (HO.out _ HBX.out).mono ?_;rintro e w1 ⟨rfl,hb1⟩;have HB1:=Lib.hid (bnext HBX.out hb1);have HX1:=Lib.hid (HX.out.keep hb1);clear hb1 xc xf xz;by_cases h0:e1=0
 ·by_cases h1:no=0
  ·have HE:=Lib.hid (HR.out.trans (if_pos ⟨h0,h1⟩));subst h0 h1;obtain⟨xc,xf,xz⟩:=HX1.out.facts;go_wp2_with fail;refine (HC.out _).mono ?_;rintro e w2 ⟨rfl,hb2⟩;have HB2:=Lib.hid (bnext HB1.out hb2);clear hb2 xc xf xz;go_wp2_with fail;refine (HM.out _ HB2.out).mono ?_;rintro e w3 ⟨rfl,hS3⟩;have HG3:=Lib.hid (show GoesR w w3 B pf R q.1 from GoesR.after HB2.out hS3);clear hS3;go_wp2_with fail;go_ret2;rw [HE.out];exact⟨rfl,HG3.out⟩
  ·have h1b:(no == 0)=false:=by simpa using h1
   have HE:=Lib.hid (HR.out.trans (if_neg (fun h=>h1 h.2)));subst h0;clear h1;go_wp2_with fail;go_ret2;rw [HE.out];exact⟨rfl,HG.out _ HB1.out⟩
 ·have h0b:(e1 == 0)=false:=by simpa using h0
  have HE:=Lib.hid (HR.out.trans (if_neg (fun h=>h0 h.1)));clear h0;go_wp2_with fail;go_ret2;rw [HE.out];exact⟨rfl,HG.out _ HB1.out⟩
end
end
section
open Go.RowKit
theorem rstat_results {tmps:Array Value} {W:World} {B:Nat} {y0 y1 y2 y3 y4 y5 y6 y7 y8 y9 e:Int} (hb:Blk W B #[.int .i64 y0,.int .i64 y1,.int .i64 y2,.int .i64 y3,.int .i64 y4,.int .i64 y5,.int .i64 y6,.int .i64 y7,.int .i64 y8,.int .i64 y9] 91)
  (h8:tmps.getD 4 undef=.pointer (some ⟨B,0,none⟩)) (h9:tmps.getD 5 undef=.int .i64 e):(results Tryz.f189 tmps).run Tryz.prog W=.ok (.tuple #[.agg #[.int .i64 y0,.int .i64 y1,.int .i64 y2,.int .i64 y3,.int .i64 y4,.int .i64 y5,.int .i64 y6,.int .i64 y7,.int .i64 y8,.int .i64 y9],.int .i64 e]) W:=by
 have q0:=hb.cell 0;have q1:=hb.cell 1;have q2:=hb.cell 2;have q3:=hb.cell 3;have q4:=hb.cell 4;have q5:=hb.cell 5;have q6:=hb.cell 6;have q7:=hb.cell 7;have q8:=hb.cell 8;have q9:=hb.cell 9;rw [Array.getD_eq_getD_getElem?] at h8 h9;simp [results,Tryz.results189,go_sem,h8,h9,q0,q1,q2,q3,q4,q5,q6,q7,q8,q9]
theorem rstat21_results {tmps:Array Value} {W:World} {B:Nat} {y0 y1 y2 y3 y4 y5 y6 y7 y8 y9 e:Int} (hb:Blk W B #[.int .i64 y0,.int .i64 y1,.int .i64 y2,.int .i64 y3,.int .i64 y4,.int .i64 y5,.int .i64 y6,.int .i64 y7,.int .i64 y8,.int .i64 y9] 91)
  (h8:tmps.getD 4 undef=.pointer (some ⟨B,0,none⟩)) (h9:tmps.getD 5 undef=.int .i64 e):(results Tryz.f125 tmps).run Tryz.prog W=.ok (.tuple #[.agg #[.int .i64 y0,.int .i64 y1,.int .i64 y2,.int .i64 y3,.int .i64 y4,.int .i64 y5,.int .i64 y6,.int .i64 y7,.int .i64 y8,.int .i64 y9],.int .i64 e]) W:=by
 have q0:=hb.cell 0;have q1:=hb.cell 1;have q2:=hb.cell 2;have q3:=hb.cell 3;have q4:=hb.cell 4;have q5:=hb.cell 5;have q6:=hb.cell 6;have q7:=hb.cell 7;have q8:=hb.cell 8;have q9:=hb.cell 9;rw [Array.getD_eq_getD_getElem?] at h8 h9;simp [results,Tryz.results125,go_sem,h8,h9,q0,q1,q2,q3,q4,q5,q6,q7,q8,q9]
theorem rfind21_results {tmps:Array Value} {W:World} {B:Nat} {x:Fd} {e:Int} (hb:Blk W B #[.int .i64 x.dir,.string x.name,.int .i64 x.no,.bool x.slash] 118)
  (h8:tmps.getD 8 undef=.pointer (some ⟨B,0,none⟩)) (h9:tmps.getD 9 undef=.int .i64 e):(results Tryz.f126 tmps).run Tryz.prog W=.ok (.tuple #[x.v,.int .i64 e]) W:=by
 have q0:=hb.cell 0;have q1:=hb.cell 1;have q2:=hb.cell 2;have q3:=hb.cell 3;rw [Array.getD_eq_getD_getElem?] at h8 h9;simp [results,Tryz.results126,go_sem,Fd.v,h8,h9,q0,q1,q2,q3]
section
variable {w w':World} {pf:Nat} {R:Rf} {S:Fs}
theorem rstat_any (h:RfAt w pf R S) {N:Nat} (hk:FsOk S N) (no:Int) :
  Calls Tryz.prog 189 #[.pointer (some ⟨pf,0,none⟩),.int .i64 no] w fun e w'=>e=.returned (.tuple #[stV (S.get no),.int .i64 (noneE (S.get no))])∧Below w.heap.size w w':=by
 have hRX:=Blk.new w #[.int .i64 0,.int .i64 0,.int .i64 0,.int .i64 0,.int .i64 0,.int .i64 0,.int .i64 0,.int .i64 0,.int .i64 0,.int .i64 0] 91;have hbX:=balloc (Below.refl w.heap.size w) (.cells #[.int .i64 0,.int .i64 0,.int .i64 0,.int .i64 0,.int .i64 0,.int .i64 0,.int .i64 0,.int .i64 0,.int .i64 0,.int .i64 0] 91);have HRX:=Lib.hid hRX;have HBX:=Lib.hid hbX;obtain⟨da,dl,dc,-,hG⟩:=rgetZ_fix h no;have HG:=Lib.hid (hG _ hbX);have hnz:=getZ_no hk no;have HZ:=Lib.hid (fun a (hg:S.get no=some a)=>getZ_some hg);unfold An.v at HG;obtain⟨n,hn⟩:∃ n,S.getZ no=n:=⟨_,rfl⟩;rw [hn] at HG hnz;have HN:=Lib.hid hn;have hdl:n.data.size≤9223372036854775807:=by
  rw [←hn];unfold Fs.getZ
  cases hg:S.get no with
  | none=>show (0:Nat)≤_;omega
  | some a=>have:=(hk.get hg).1.data;show a.data.size≤_;omega
 clear h hk hRX hbX hG hn;go_enter Tryz.func189,Tryz.ntmps189;go_wp2_with fail;refine HG.out.mono ?_;rintro e w4 ⟨rfl,hb4⟩;have hd4:=Blk.new w4 #[.int .i64 n.no,.int .i64 n.dev,.int .i64 n.kind,.int .i64 n.mode,.int .i64 n.uid,.int .i64 n.gid,.int .i64 n.mtime,.int .i64 n.ctime,.int .i64 n.links,.int .i64 n.up,.string n.data,.slice da dl dc] 49;have hr4:=(HRX.out.keep hb4).old (.cells #[.int .i64 n.no,.int .i64 n.dev,.int .i64 n.kind,.int .i64 n.mode,.int .i64 n.uid,.int .i64 n.gid,.int .i64 n.mtime,.int .i64 n.ctime,.int .i64 n.links,.int .i64 n.up,.string n.data,.slice da dl dc] 49);have hb5:=balloc (bnext HBX.out hb4) (.cells #[.int .i64 n.no,.int .i64 n.dev,.int .i64 n.kind,.int .i64 n.mode,.int .i64 n.uid,.int .i64 n.gid,.int .i64 n.mtime,.int .i64 n.ctime,.int .i64 n.links,.int .i64 n.up,.string n.data,.slice da dl dc] 49);clear hb4;go_upto_region 2 with fail;generalize w4.alloc (.cells #[.int .i64 n.no,.int .i64 n.dev,.int .i64 n.kind,.int .i64 n.mode,.int .i64 n.uid,.int .i64 n.gid,.int .i64 n.mtime,.int .i64 n.ctime,.int .i64 n.links,.int .i64 n.up,.string n.data,.slice da dl dc] 49)=X at hd4 hr4 hb5 ⊢;obtain⟨nc,nf,nz⟩:=hd4.facts;obtain⟨rc,rf,rz⟩:=hr4.facts;have HR4:=Lib.hid hr4;have HB5:=Lib.hid hb5;clear hd4 hr4 hb5
 cases hg:S.get no with
 | none=>
  rw [hg] at hnz;have hnz2:(n.no == 0)=true:=hnz;have HG:=Lib.hid hg;clear hnz hg;go_wp2_with (exact bodyPost_ret (rstat_results HR4.out.set10 rfl rfl) rfl ⟨by rw [HG.out];rfl,below_set10 HB5.out (Nat.le_refl _)⟩)
 | some a=>
  have hna:n=a:=by rw [←HN.out,HZ.out a hg]
  subst hna;rw [hg] at hnz;have hnz2:(n.no == 0)=false:=hnz;have HG:=Lib.hid hg;clear hnz hg;go_wp2_with (exact bodyPost_ret (rstat_results HR4.out.set10 rfl rfl) rfl ⟨by rw [HG.out];rfl,below_set10 HB5.out (Nat.le_refl _)⟩)
theorem rstat21_any (h:RfAt w pf R S) {N:Nat} (hk:FsOk S N) (hd:R.dd=.bool false) (no:Int) :
  Calls Tryz.prog 125 #[.pointer (some ⟨pf,0,none⟩),.int .i64 no] w fun e w'=>e=.returned (.tuple #[stV (S.get no),.int .i64 (noneE (S.get no))])∧Below w.heap.size w w':=by
 have hRX:=Blk.new w #[.int .i64 0,.int .i64 0,.int .i64 0,.int .i64 0,.int .i64 0,.int .i64 0,.int .i64 0,.int .i64 0,.int .i64 0,.int .i64 0] 91;have hbX:=balloc (Below.refl w.heap.size w) (.cells #[.int .i64 0,.int .i64 0,.int .i64 0,.int .i64 0,.int .i64 0,.int .i64 0,.int .i64 0,.int .i64 0,.int .i64 0,.int .i64 0] 91);have HRX:=Lib.hid hRX;have HBX:=Lib.hid hbX;have HX:=h.keep ((Below.refl w.heap.size w).alloc (Nat.le_refl _) (.cells #[.int .i64 0,.int .i64 0,.int .i64 0,.int .i64 0,.int .i64 0,.int .i64 0,.int .i64 0,.int .i64 0,.int .i64 0,.int .i64 0] 91));have HS:=Lib.hid (rstat_any HX hk no);have hblk:=HX.blk;rw [hd] at hblk;obtain⟨pc,pf',pz⟩:=hblk.facts;clear h hk hd HX hRX hbX hblk
 cases hg:S.get no with
 | none=>
  rw [hg] at HS;unfold stV noneE at HS ⊢;go_enter Tryz.func125,Tryz.ntmps125;go_wp2_with fail;refine HS.out.mono ?_;rintro e w4 ⟨rfl,hb4⟩;have hr4:=HRX.out.keep hb4;obtain⟨rc,rf,rz⟩:=hr4.facts;have HR4:=Lib.hid hr4;have HB5:=Lib.hid (bnext HBX.out hb4);clear hb4 hr4 pc pf' pz;go_wp2_with (exact bodyPost_ret (rstat21_results HR4.out.set10 rfl rfl) rfl ⟨rfl,below_set10 HB5.out (Nat.le_refl _)⟩)
 | some a=>
  rw [hg] at HS;unfold stV noneE at HS ⊢;go_enter Tryz.func125,Tryz.ntmps125;go_wp2_with fail;refine HS.out.mono ?_;rintro e w4 ⟨rfl,hb4⟩;have hr4:=HRX.out.keep hb4;obtain⟨rc,rf,rz⟩:=hr4.facts;have HR4:=Lib.hid hr4;have HB5:=Lib.hid (bnext HBX.out hb4);clear hb4 hr4 pc pf' pz;go_wp2_with (exact bodyPost_ret (rstat21_results HR4.out.set10 rfl rfl) rfl ⟨rfl,below_set10 HB5.out (Nat.le_refl _)⟩)
theorem rfind21_any (h:RfAt w pf R S) {N:Nat} (hk:FsOk S N) (hd:R.dd=.bool false) (c:Cr) (path:ByteArray) (hp:path.size≤100000) (f:Bool) :
  Calls Tryz.prog 126 #[.pointer (some ⟨pf,0,none⟩),.agg #[.int .i64 c.u,.int .i64 c.g],.string path,.bool f] w fun e w'=>e=.returned (.tuple #[(S.path c path f).1.v,.int .i64 (S.path c path f).2])∧Below w.heap.size w w':=by
 have hRX:Blk ((w.alloc (.cells #[.int .i64 c.u,.int .i64 c.g] 67)).alloc (.cells #[.int .i64 0,.string ⟨#[]⟩,.int .i64 0,.bool false] 118)) (w.heap.size+1) #[.int .i64 0,.string ⟨#[]⟩,.int .i64 0,.bool false] 118:=by
  have:=Blk.new (w.alloc (.cells #[.int .i64 c.u,.int .i64 c.g] 67)) #[.int .i64 0,.string ⟨#[]⟩,.int .i64 0,.bool false] 118
  rwa [World.size_alloc] at this
 have hCX:=(Blk.new w #[.int .i64 c.u,.int .i64 c.g] 67).old (.cells #[.int .i64 0,.string ⟨#[]⟩,.int .i64 0,.bool false] 118);have hbX:=balloc (balloc (Below.refl w.heap.size w) (.cells #[.int .i64 c.u,.int .i64 c.g] 67)) (.cells #[.int .i64 0,.string ⟨#[]⟩,.int .i64 0,.bool false] 118);have HX:=h.keep hbX;have HS:=Lib.hid (rpathC_any HX hk c path hp f);have hblk:=HX.blk;rw [hd] at hblk;obtain⟨pc,pf',pz⟩:=hblk.facts;obtain⟨cc,-,cz⟩:=hCX.facts;have HRX:=Lib.hid hRX;have HBX:=Lib.hid hbX;generalize S.path c path f=rd at HS ⊢;unfold Fd.v at HS;clear h hk hd HX hRX hbX hblk hCX;go_enter Tryz.func126,Tryz.ntmps126;go_wp2_with fail;refine HS.out.mono ?_;rintro e w4 ⟨rfl,hb4⟩;have hr4:=HRX.out.keep hb4;obtain⟨rc,rf,rz⟩:=hr4.facts;have HR4:=Lib.hid hr4;have HB5:=Lib.hid (bnext HBX.out hb4);clear hb4 hr4 pc pf' pz cc cz;go_wp2_with (exact bodyPost_ret (rfind21_results HR4.out.set4 rfl rfl) rfl ⟨rfl,below_set4 HB5.out (Nat.le_succ _)⟩)
theorem rtop_any (h:RfAt w pf R S) {N:Nat} (hk:FsOk S N) (hp:Pl S) (hl:S.ns.length≤100000) (hd:R.dd=.bool false) (no:Int) :
  Calls Tryz.prog 64 #[.pointer (some ⟨pf,0,none⟩),.int .i64 no] w fun e w'=>e=.returned (.tuple #[.int .i64 (S.topF no).1,.string (S.topF no).2.1,.int .i64 (S.topF no).2.2])∧Below w.heap.size w w':=by
 have HS:=Lib.hid (rstat21_any h hk hd no);have HRo:=Lib.hid (fun w1 (hb:Below w.heap.size w w1) d=>rroot_any (h.keep hb) d);have HWh:=Lib.hid (fun w1 (hb:Below w.heap.size w w1) d=>rwhere_any (h.keep hb) hk hp hl d);have HZ0:=Lib.hid (fun h=>topF_none (S:=S) (no:=no) h);have HZ1:=Lib.hid (fun a h h2=>topF_gone (S:=S) (no:=no) (a:=a) h h2);have HZ2:=Lib.hid (fun a s h h2=>topF_some (S:=S) (no:=no) (a:=a) (s:=s) h h2);generalize S.topF no=Z at HZ0 HZ1 HZ2 ⊢;clear h hk hp hd
 cases hg:S.get no with
 | none=>
  rw [hg] at HS;have HZ:=Lib.hid (HZ0.out hg);unfold stV noneE at HS;clear hg;go_enter Tryz.func64,Tryz.ntmps64;go_wp2_with fail;refine HS.out.mono ?_;rintro e w1 ⟨rfl,hb1⟩;have HB1:=Lib.hid (balloc hb1 (.cells #[.int .i64 0,.int .i64 0,.int .i64 0,.int .i64 0,.int .i64 0,.int .i64 0,.int .i64 0,.int .i64 0,.int .i64 0,.int .i64 0] 91));clear hb1;go_wp2_with fail
  go_ret3
  exact⟨by rw [HZ.out];rfl,HB1.out⟩
 | some a=>
  rw [hg] at HS;have HG:=Lib.hid hg;unfold stV noneE at HS;clear hg;go_enter Tryz.func64,Tryz.ntmps64;go_wp2_with fail;refine HS.out.mono ?_;rintro e w1 ⟨rfl,hb1⟩;have hX:=Blk.new w1 #[.int .i64 a.no,.int .i64 a.dev,.int .i64 a.kind,.int .i64 a.mode,.int .i64 a.uid,.int .i64 a.gid,.int .i64 a.links,.int .i64 a.data.size,.int .i64 a.mtime,.int .i64 a.ctime] 91;have hbX:=balloc hb1 (.cells #[.int .i64 a.no,.int .i64 a.dev,.int .i64 a.kind,.int .i64 a.mode,.int .i64 a.uid,.int .i64 a.gid,.int .i64 a.links,.int .i64 a.data.size,.int .i64 a.mtime,.int .i64 a.ctime] 91);go_upto_region 2 with fail;generalize w1.alloc (.cells #[.int .i64 a.no,.int .i64 a.dev,.int .i64 a.kind,.int .i64 a.mode,.int .i64 a.uid,.int .i64 a.gid,.int .i64 a.links,.int .i64 a.data.size,.int .i64 a.mtime,.int .i64 a.ctime] 91)=X at hX hbX ⊢;have HX:=Lib.hid hX;have HBX:=Lib.hid hbX;obtain⟨xc,xf,xz⟩:=hX.facts;clear hb1 hX hbX;go_wp2_with fail;refine (HRo.out _ HBX.out _).mono ?_;rintro e w2 ⟨rfl,rfl⟩;go_wp2_with fail;refine (HWh.out _ HBX.out _).mono ?_;rintro e w3 ⟨rfl,hb3⟩;have HX3:=Lib.hid (HX.out.keep hb3);have HB3:=Lib.hid (bnext HBX.out hb3);unfold whereV;clear hb3 xc xf xz;obtain⟨xc,xf,xz⟩:=HX3.out.facts
  cases hpl:S.place_ (S.root a.dev) with
  | none=>
   have HZ:=Lib.hid (HZ1.out _ HG.out hpl);clear hpl;go_wp2_with fail
   go_ret3
   exact⟨by rw [HZ.out];rfl,HB3.out⟩
  | some s=>
   have HZ:=Lib.hid (HZ2.out _ _ HG.out hpl);clear hpl;go_wp2_with fail;refine (HRo.out _ HB3.out _).mono ?_;rintro e w4 ⟨rfl,rfl⟩;go_wp2_with fail
   go_ret3
   exact⟨by rw [HZ.out];rfl,HB3.out⟩
end
end
end Go.Proofs.YtihdbncoijhihaaGreat
