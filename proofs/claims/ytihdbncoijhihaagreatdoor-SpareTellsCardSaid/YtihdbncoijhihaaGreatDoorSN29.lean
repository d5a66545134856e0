import Derived.Test.YtihdbncoijhihaaGreatDoorSN21
import Derived.Test.YtihdbncoijhihaaGreatDoorSN25
import Derived.Test.YtihdbncoijhihaaGreatDoorSN28
import Derived.Test.YtihdbncoijhihaaGreatDoorSN15
import Derived.Test.YtihdbncoijhihaaGreatDoorSN19
import Derived.Test.YtihdbncoijhihaaGreatDoorSN9
import Derived.Test.YtihdbncoijhihaaGreatDoorSN20
import Derived.Test.YtihdbncoijhihaaGreatDoorSN2
import Derived.Test.YtihdbncoijhihaaGreatDoorSN5
set_option linter.unusedVariables false
set_option linter.unusedSimpArgs false
set_option maxRecDepth 100000
set_option maxHeartbeats 16000000
namespace Go.Proofs.YtihdbncoijhihaaGreatDoor
section
open Go.RowKit
theorem ropen_results {tmps:Array Value} {W:World} {B:Nat} {a:An} {ea:Option Addr} {el ec:Nat} {e:Int} (hb:Blk W B #[.int .i64 a.no,.int .i64 a.dev,.int .i64 a.kind,.int .i64 a.mode,.int .i64 a.uid,.int .i64 a.gid,.int .i64 a.mtime,.int .i64 a.ctime,.int .i64 a.links,.int .i64 a.up,.string a.data,.slice ea el ec] 109)
  (h8:tmps.getD 10 undef=.pointer (some ⟨B,0,none⟩)) (h9:tmps.getD 11 undef=.int .i64 e):(results Tryz.f227 tmps).run Tryz.prog W=.ok (.tuple #[a.v ea el ec,.int .i64 e]) W:=by
 obtain⟨q0,q1,q2,q3,q4,q5,q6,q7,q8,q9,q10,q11⟩:=hb.cells12;rw [Array.getD_eq_getD_getElem?] at h8 h9;simp [results,Tryz.results227,go_sem,An.v,h8,h9,q0,q1,q2,q3,q4,q5,q6,q7,q8,q9,q10,q11]
theorem openE_Z {S:Fs} {N:Nat} (hk:FsOk S N) (c:Cr) (no kind want:Int):S.openE c no kind want=if (S.getZ no).no=0 then 5 else if (S.getZ no).kind≠kind then (if kind=1 then 9 else if (S.getZ no).kind=1 then 8 else 1) else if (S.getZ no).may c want=false then 6 else 0:=by
 unfold Fs.openE
 cases hg:S.get no with
 | none=>rw [getZ_none hg];rfl
 | some a=>
  rw [getZ_some hg];have h1:=(hk.get hg).2;dsimp only;rw [if_neg (show ¬ a.no=0 by omega)];by_cases h2:a.kind=kind
  ·rw [if_pos h2,if_neg (show ¬ a.kind≠kind from fun h=>h h2)]
   cases a.may c want <;> rfl
  ·rw [if_neg h2,if_pos h2]
section
variable {w w':World} {pf:Nat} {R:Rf} {S:Fs}
theorem ropen_any (h:RfAt w pf R S) {N:Nat} (hk:FsOk S N) (c:Cr) (no kind want:Int) (hw:0≤want∧want≤7) :
  Calls Tryz.prog 227 #[.pointer (some ⟨pf,0,none⟩),.agg #[.int .i64 c.u,.int .i64 c.g],.int .i64 no,.int .i64 kind,.int .i64 want] w fun e w'=>((S.openE c no kind want≠0∧e=.returned (.tuple #[an0.v none 0 0,.int .i64 (S.openE c no kind want)]))∨(S.openE c no kind want=0∧∃ d ea el ec,S.get no=some d∧e=.returned (.tuple #[d.v ea el ec,.int .i64 0])∧EntsAt w ea el ec d.ents))∧Below w.heap.size w w':=by
 have hCX:=(Blk.new w #[.int .i64 c.u,.int .i64 c.g] 27).old (.cells #[.int .i64 0,.int .i64 0,.int .i64 0,.int .i64 0,.int .i64 0,.int .i64 0,.int .i64 0,.int .i64 0,.int .i64 0,.int .i64 0,.string ⟨#[]⟩,.slice none 0 0] 109);have hRX:Blk ((w.alloc (.cells #[.int .i64 c.u,.int .i64 c.g] 27)).alloc (.cells #[.int .i64 0,.int .i64 0,.int .i64 0,.int .i64 0,.int .i64 0,.int .i64 0,.int .i64 0,.int .i64 0,.int .i64 0,.int .i64 0,.string ⟨#[]⟩,.slice none 0 0] 109)) (w.heap.size+1) #[.int .i64 0,.int .i64 0,.int .i64 0,.int .i64 0,.int .i64 0,.int .i64 0,.int .i64 0,.int .i64 0,.int .i64 0,.int .i64 0,.string ⟨#[]⟩,.slice none 0 0] 109:=by
  have:=Blk.new (w.alloc (.cells #[.int .i64 c.u,.int .i64 c.g] 27)) #[.int .i64 0,.int .i64 0,.int .i64 0,.int .i64 0,.int .i64 0,.int .i64 0,.int .i64 0,.int .i64 0,.int .i64 0,.int .i64 0,.string ⟨#[]⟩,.slice none 0 0] 109
  rwa [World.size_alloc] at this
 have hbX:=balloc (balloc (Below.refl w.heap.size w) (.cells #[.int .i64 c.u,.int .i64 c.g] 27)) (.cells #[.int .i64 0,.int .i64 0,.int .i64 0,.int .i64 0,.int .i64 0,.int .i64 0,.int .i64 0,.int .i64 0,.int .i64 0,.int .i64 0,.string ⟨#[]⟩,.slice none 0 0] 109);obtain⟨ea,el,ec,he,hG⟩:=rgetZ_fix h no;have HG:=Lib.hid hG;have HQ:=Lib.hid (openE_Z hk c no kind want);have HZ:=Lib.hid (fun (h0:(S.getZ no).no≠0)=>show ∃ d ea el ec,S.get no=some d∧_ from by
  rcases getZ_cases S no with ⟨a,h1,h2⟩|⟨-,h2⟩
  ·exact ⟨S.getZ no,ea,el,ec,by rw [h2];exact h1,(⟨rfl,he⟩:(S.getZ no).v ea el ec=(S.getZ no).v ea el ec∧EntsAt w ea el ec (S.getZ no).ents)⟩
  ·exact absurd (by rw [h2];rfl) h0)
 have HSm:=Lib.hid (fun (h0:(S.getZ no).no≠0)=>show S.get no=some (S.getZ no) from by
  rcases getZ_cases S no with ⟨a,h1,h2⟩|⟨-,h2⟩
  ·rw [h2];exact h1
  ·exact absurd (by rw [h2];rfl) h0)
 clear HZ;have HE0:=Lib.hid he;have HNd:=Lib.hid (fun w=>rnodeG_any c (S.getZ no) ea el ec want (getZ_mode hk no) hw w);unfold An.v at HG HNd;generalize S.openE c no kind want=oe at HQ ⊢;generalize S.getZ no=z at HG HQ HSm HE0 HNd;clear h hk hG he hw;go_enter Tryz.func227,Tryz.ntmps227;go_upto_region 1 with fail;generalize (w.alloc (.cells #[.int .i64 c.u,.int .i64 c.g] 27)).alloc (.cells #[.int .i64 0,.int .i64 0,.int .i64 0,.int .i64 0,.int .i64 0,.int .i64 0,.int .i64 0,.int .i64 0,.int .i64 0,.int .i64 0,.string ⟨#[]⟩,.slice none 0 0] 109)=W0 at hRX hCX hbX ⊢;have HRX:=Lib.hid hRX;have HBX:=Lib.hid hbX;have HCX:=Lib.hid hCX;clear hRX hbX hCX;go_wp2_with fail;refine (HG.out _ HBX.out).mono ?_;rintro e w1 ⟨rfl,hb1⟩;have hRY:=(HRX.out.keep hb1).old (.cells #[.int .i64 z.no,.int .i64 z.dev,.int .i64 z.kind,.int .i64 z.mode,.int .i64 z.uid,.int .i64 z.gid,.int .i64 z.mtime,.int .i64 z.ctime,.int .i64 z.links,.int .i64 z.up,.string z.data,.slice ea el ec] 109);have hCY:=(HCX.out.keep hb1).old (.cells #[.int .i64 z.no,.int .i64 z.dev,.int .i64 z.kind,.int .i64 z.mode,.int .i64 z.uid,.int .i64 z.gid,.int .i64 z.mtime,.int .i64 z.ctime,.int .i64 z.links,.int .i64 z.up,.string z.data,.slice ea el ec] 109);have hbY:=balloc (bnext HBX.out hb1) (.cells #[.int .i64 z.no,.int .i64 z.dev,.int .i64 z.kind,.int .i64 z.mode,.int .i64 z.uid,.int .i64 z.gid,.int .i64 z.mtime,.int .i64 z.ctime,.int .i64 z.links,.int .i64 z.up,.string z.data,.slice ea el ec] 109);have hDY:=Blk.new w1 #[.int .i64 z.no,.int .i64 z.dev,.int .i64 z.kind,.int .i64 z.mode,.int .i64 z.uid,.int .i64 z.gid,.int .i64 z.mtime,.int .i64 z.ctime,.int .i64 z.links,.int .i64 z.up,.string z.data,.slice ea el ec] 109;clear hb1;go_upto_region 2 with fail;generalize w1.alloc (.cells #[.int .i64 z.no,.int .i64 z.dev,.int .i64 z.kind,.int .i64 z.mode,.int .i64 z.uid,.int .i64 z.gid,.int .i64 z.mtime,.int .i64 z.ctime,.int .i64 z.links,.int .i64 z.up,.string z.data,.slice ea el ec] 109)=Y at hRY hbY hDY hCY ⊢;have HRY:=Lib.hid hRY;have HBY:=Lib.hid hbY;have HDY:=Lib.hid hDY;obtain⟨rc,rf,rz⟩:=hRY.facts;obtain⟨dc,df,dz⟩:=hDY.facts;obtain⟨cc,-,-⟩:=hCY.facts;clear hRY hbY hDY hCY;by_cases h0:z.no=0
 ·have h0':(z.no == 0)=true:=by simpa using h0
  have HE:=Lib.hid (HQ.out.trans (if_pos h0));clear h0 HQ;go_wp2_with (exact bodyPost_ret (ropen_results (a:=an0) HRY.out.set12 rfl rfl) rfl ⟨.inl ⟨by rw [HE.out];decide,by rw [HE.out]⟩,below_set12 HBY.out (Nat.le_succ _)⟩)
 ·have h0':(z.no == 0)=false:=by simpa using h0
  have HQ0:=Lib.hid (HQ.out.trans (if_neg h0));have HS0:=Lib.hid (HSm.out h0);clear h0 HQ HSm;by_cases h1:z.kind=kind
  ·have h1':(z.kind != kind)=false:=by simpa using h1
   have HQ1:=Lib.hid (HQ0.out.trans (if_neg (by simpa using h1)));clear h1 HQ0;go_wp2_with fail;refine (HNd.out _).mono ?_;rintro e w5 ⟨rfl,hb5⟩;have hRZ:=HRY.out.keep hb5;have hDZ:=HDY.out.keep hb5;have HRZ:=Lib.hid hRZ;have HBZ:=Lib.hid (bnext HBY.out hb5);clear rc rf rz dc df dz cc hb5;obtain⟨rc,rf,rz⟩:=hRZ.facts;obtain⟨dc,df,dz⟩:=hDZ.facts;clear hRZ hDZ
   cases hm:z.may c want with
   | true=>
    have HE:=Lib.hid (HQ1.out.trans (if_neg (by rw [hm];decide)));clear hm;go_wp2_with (exact bodyPost_ret (ropen_results (a:=z) (ea:=ea) (el:=el) (ec:=ec) HRZ.out.set12 rfl rfl) rfl ⟨.inr ⟨HE.out,z,ea,el,ec,HS0.out,rfl,HE0.out⟩,below_set12 HBZ.out (Nat.le_succ _)⟩)
   | false=>
    have HE:=Lib.hid (HQ1.out.trans (if_pos hm));clear hm;go_wp2_with (exact bodyPost_ret (ropen_results (a:=an0) HRZ.out.set12 rfl rfl) rfl ⟨.inl ⟨by rw [HE.out];decide,by rw [HE.out]⟩,below_set12 HBZ.out (Nat.le_succ _)⟩)
  ·have h1':(z.kind != kind)=true:=by simpa using h1
   have HQ1:=Lib.hid (HQ0.out.trans (if_pos h1));clear h1 HQ0;by_cases h2:kind=1
   ·have h2':(kind == 1)=true:=by simpa using h2
    have HE:=Lib.hid (HQ1.out.trans (if_pos h2));clear h2;go_wp2_with (exact bodyPost_ret (ropen_results (a:=an0) HRY.out.set12 rfl rfl) rfl ⟨.inl ⟨by rw [HE.out];decide,by rw [HE.out]⟩,below_set12 HBY.out (Nat.le_succ _)⟩)
   ·have h2':(kind == 1)=false:=by simpa using h2
    have HQ2:=Lib.hid (HQ1.out.trans (if_neg h2));clear h2 HQ1;by_cases h3:z.kind=1
    ·have h3':(z.kind == 1)=true:=by simpa using h3
     have HE:=Lib.hid (HQ2.out.trans (if_pos h3));clear h3;go_wp2_with (exact bodyPost_ret (ropen_results (a:=an0) HRY.out.set12 rfl rfl) rfl ⟨.inl ⟨by rw [HE.out];decide,by rw [HE.out]⟩,below_set12 HBY.out (Nat.le_succ _)⟩)
    ·have h3':(z.kind == 1)=false:=by simpa using h3
     have HE:=Lib.hid (HQ2.out.trans (if_neg h3));clear h3;go_wp2_with (exact bodyPost_ret (ropen_results (a:=an0) HRY.out.set12 rfl rfl) rfl ⟨.inl ⟨by rw [HE.out];decide,by rw [HE.out]⟩,below_set12 HBY.out (Nat.le_succ _)⟩)
theorem rlook14_any (h:RfAt w pf R S) {N:Nat} (hk:FsOk S N) (c:Cr) (dir:Int) (n:ByteArray) :
  Calls Tryz.prog 165 #[.pointer (some ⟨pf,0,none⟩),.agg #[.int .i64 c.u,.int .i64 c.g],.int .i64 dir,.string n] w fun e w'=>e=.returned (.tuple #[.int .i64 (S.lookF false c dir n).1,.int .i64 (S.lookF false c dir n).2])∧Below w.heap.size w w':=by
 have HO:=Lib.hid (fun w1 (hb1:Below w.heap.size w w1)=>ropen_any (h.keep hb1) hk c dir 1 1 (by decide));have HOv:=Lib.hid (fun w1 (hb1:Below w.heap.size w w1) k=>rover_any (h.keep hb1) k);have HR:=Lib.hid (show S.lookF false c dir n=if S.openE c dir 1 1≠0 then (0,S.openE c dir 1 1) else if entFind (S.entsOf dir) n=0 then (0,5) else (S.over (entFind (S.entsOf dir) n),0) by unfold Fs.lookF;rw [if_neg (by decide)]);generalize S.lookF false c dir n=rd at HR ⊢;have hbc:=balloc (Below.refl w.heap.size w) (.cells #[.int .i64 c.u,.int .i64 c.g] 27);clear h hk;go_enter Tryz.func165,Tryz.ntmps165;go_wp2_with fail;refine (HO.out _ hbc).mono ?_;rintro e w1 ⟨⟨h0,rfl⟩|⟨h0,d,ea,el,ec,hg,rfl,he⟩,hb1⟩
 ·have HB:=Lib.hid (bnext hbc hb1);have HE:=Lib.hid (HR.out.trans (if_pos h0));have h0':(S.openE c dir 1 1 != 0)=true:=by simpa using h0
  generalize S.openE c dir 1 1=oe at HE h0' ⊢;unfold An.v an0;clear h0 hb1 hbc;go_wp2_with fail;go_ret2;rw [HE.out];exact⟨rfl,balloc HB.out _⟩
 ·have hb2:=bnext hbc hb1;have hen:S.entsOf dir=d.ents:=by
   unfold Fs.entsOf;rw [hg]
  have HE:=Lib.hid (show rd=if entFind d.ents n=0 then (0,5) else (S.over (entFind d.ents n),0) by rw [HR.out,if_neg (by simpa using h0),hen]);have HF:=Lib.hid (fun w2 (hb2:Below w1.heap.size w1 w2)=>rfind_any d.ents ea el ec n w2 ((he.keep hb1).keep hb2));have hX:=Blk.new w1 #[.int .i64 d.no,.int .i64 d.dev,.int .i64 d.kind,.int .i64 d.mode,.int .i64 d.uid,.int .i64 d.gid,.int .i64 d.mtime,.int .i64 d.ctime,.int .i64 d.links,.int .i64 d.up,.string d.data,.slice ea el ec] 109;have hbX:=balloc (Below.refl w1.heap.size w1) (.cells #[.int .i64 d.no,.int .i64 d.dev,.int .i64 d.kind,.int .i64 d.mode,.int .i64 d.uid,.int .i64 d.gid,.int .i64 d.mtime,.int .i64 d.ctime,.int .i64 d.links,.int .i64 d.up,.string d.data,.slice ea el ec] 109);have HB2:=Lib.hid hb2;unfold An.v;clear h0 hb1 hbc hb2 hen he hg;go_upto_region 2 with fail;generalize w1.alloc (.cells #[.int .i64 d.no,.int .i64 d.dev,.int .i64 d.kind,.int .i64 d.mode,.int .i64 d.uid,.int .i64 d.gid,.int .i64 d.mtime,.int .i64 d.ctime,.int .i64 d.links,.int .i64 d.up,.string d.data,.slice ea el ec] 109)=X at hX hbX ⊢;have HBX:=Lib.hid hbX;have HBW:=Lib.hid (HB2.out.trans (hbX.mono HB2.out.size));obtain⟨xc,xf,xz⟩:=hX.facts;clear hX hbX;generalize entFind d.ents n=f at HE HF;go_wp2_with fail;refine (HF.out _ HBX.out).mono ?_;rintro e w2 ⟨rfl,hb2⟩;have HB3:=Lib.hid (bnext HBW.out hb2);clear hb2 xc xf xz;by_cases hf:f=0
  ·have HE1:=Lib.hid (HE.out.trans (if_pos hf));have hf1:(f == 0)=true:=by simpa using hf
   clear hf;go_wp2_with fail;go_ret2;rw [HE1.out];exact⟨rfl,HB3.out⟩
  ·have HE1:=Lib.hid (HE.out.trans (if_neg hf));have hf1:(f == 0)=false:=by simpa using hf
   clear hf;go_wp2_with fail;refine (HOv.out _ HB3.out _).mono ?_;rintro e w3 ⟨rfl,rfl⟩;go_wp2_with fail;go_ret2;rw [HE1.out];exact⟨rfl,HB3.out⟩
theorem rlook_any (h:RfAt w pf R S) {N:Nat} (hk:FsOk S N) {d:Bool} (hd:R.dd=.bool d) (c:Cr) (dir:Int) (n:ByteArray) :
  Calls Tryz.prog 97 #[.pointer (some ⟨pf,0,none⟩),.agg #[.int .i64 c.u,.int .i64 c.g],.int .i64 dir,.string n] w fun e w'=>e=.returned (.tuple #[.int .i64 (S.lookF d c dir n).1,.int .i64 (S.lookF d c dir n).2])∧Below w.heap.size w w':=by
 have hCX:=Blk.new w #[.int .i64 c.u,.int .i64 c.g] 27;have hbX:=balloc (Below.refl w.heap.size w) (.cells #[.int .i64 c.u,.int .i64 c.g] 27);have HS:=Lib.hid (fun w1 (hb1:Below w.heap.size w w1)=>rlook14_any (h.keep hb1) hk c dir n);have hblk:=h.blk;rw [hd] at hblk;have hblk2:=hblk.old (.cells #[.int .i64 c.u,.int .i64 c.g] 27);obtain⟨pc,pf',pz⟩:=hblk2.facts;obtain⟨cc,-,cz⟩:=hCX.facts;clear h hk hd hblk hblk2 hCX
 cases d with
 | true=>
  clear HS;go_enter Tryz.func97,Tryz.ntmps97;go_wp2_with fail;go_ret2;exact⟨rfl,hbX⟩
 | false=>
  generalize S.lookF false c dir n=rd at HS ⊢;have HBX:=Lib.hid hbX;clear hbX;go_enter Tryz.func97,Tryz.ntmps97;go_wp2_with fail;refine (HS.out _ HBX.out).mono ?_;rintro e w1 ⟨rfl,hb1⟩;have HB:=Lib.hid (bnext HBX.out hb1);clear hb1;go_wp2_with fail;go_ret2;exact⟨rfl,HB.out⟩
theorem rcred_any (u g:Int) (t:ByteArray) (w:World) :
  Calls Tryz.prog 49 #[.agg #[.int .i64 u,.int .i64 g,.string t]] w fun e w'=>e=.returned (.agg #[.int .i64 u,.int .i64 g])∧Below w.heap.size w w':=by
 go_enter Tryz.func49,Tryz.ntmps49;go_wp2_with fail
 go_returns
 exact⟨rfl,by go_grown⟩
end
end
section
open Go.RowKit
theorem ccred_any (u g:Int) (t:ByteArray) (w:World) :
  Calls Tryz.prog 95 #[.agg #[.int .i64 u,.int .i64 g,.string t]] w fun e w'=>e=.returned (.agg #[.int .i64 u,.int .i64 g])∧Below w.heap.size w w':=by
 go_enter Tryz.func95,Tryz.ntmps95;go_wp2_with fail
 go_returns
 exact⟨rfl,by go_grown⟩
section
variable {w w':World} {pw:Nat} {R:Rp} {S:Fs}
theorem plook_any (h:WdAt w pw R S) {N:Nat} (hk:FsOk S N) (hN:N≤999999) (c:Cr) (dir:Int) (n:ByteArray) :
  Calls Tryz.prog 164 #[.pointer (some ⟨pw,0,none⟩),.agg #[.int .i64 c.u,.int .i64 c.g],.int .i64 dir,.string n] w fun e w'=>e=.returned (.tuple #[.int .i64 (S.lookF false c dir n).1,.int .i64 (S.lookF false c dir n).2])∧Below w.heap.size w w':=by
 have HO:=Lib.hid (fun w1 (hb1:Below w.heap.size w w1)=>open_any (h.keep hb1) hk c dir 1 1);have HOv:=Lib.hid (fun w1 (hb1:Below w.heap.size w w1) k=>wover_any (h.keep hb1) hk.d1 k);have HK:=Lib.hid hk;have HR:=Lib.hid (show S.lookF false c dir n=if S.openE c dir 1 1≠0 then (0,S.openE c dir 1 1) else if entFind (S.entsOf dir) n=0 then (0,5) else (S.over (entFind (S.entsOf dir) n),0) by unfold Fs.lookF;rw [if_neg (by decide)]);generalize S.lookF false c dir n=rd at HR ⊢;have hbc:=balloc (Below.refl w.heap.size w) (.cells #[.int .i64 c.u,.int .i64 c.g] 27);clear h hk;go_enter Tryz.func164,Tryz.ntmps164;go_wp2_with fail;refine (HO.out _ hbc).mono ?_;rintro e w1 ⟨⟨h0,rfl⟩|⟨h0,d,ea,el,ec,hg,rfl,he⟩,hb1⟩
 ·have HB:=Lib.hid (bnext hbc hb1);have HE:=Lib.hid (HR.out.trans (if_pos h0));have h0':(S.openE c dir 1 1 != 0)=true:=by simpa using h0
  generalize S.openE c dir 1 1=oe at HE h0' ⊢;unfold An.v an0;clear h0 hb1 hbc;go_wp2_with fail;go_ret2;rw [HE.out];exact⟨rfl,balloc HB.out _⟩
 ·have hb2:=bnext hbc hb1;have hen:S.entsOf dir=d.ents:=by
   unfold Fs.entsOf;rw [hg]
  have HE:=Lib.hid (show rd=if entFind d.ents n=0 then (0,5) else (S.over (entFind d.ents n),0) by rw [HR.out,if_neg (by simpa using h0),hen]);have hfew:el≤1000000:=by
   rw [←he.len];exact Nat.le_trans (HK.out.get hg).1.few (by omega)
  have HF:=Lib.hid (fun w2 (hb2:Below w1.heap.size w1 w2)=>efind_any d.ents ea el ec n w2 ((he.keep hb1).keep hb2) (HK.out.get hg).1.rise hfew);have hX:=Blk.new w1 #[.int .i64 d.no,.int .i64 d.dev,.int .i64 d.kind,.int .i64 d.mode,.int .i64 d.uid,.int .i64 d.gid,.int .i64 d.mtime,.int .i64 d.ctime,.int .i64 d.links,.int .i64 d.up,.string d.data,.slice ea el ec] 109;have hbX:=balloc (Below.refl w1.heap.size w1) (.cells #[.int .i64 d.no,.int .i64 d.dev,.int .i64 d.kind,.int .i64 d.mode,.int .i64 d.uid,.int .i64 d.gid,.int .i64 d.mtime,.int .i64 d.ctime,.int .i64 d.links,.int .i64 d.up,.string d.data,.slice ea el ec] 109);have HB2:=Lib.hid hb2;unfold An.v;clear h0 hb1 hbc hb2 hen he hfew hg;go_upto_region 2 with fail;generalize w1.alloc (.cells #[.int .i64 d.no,.int .i64 d.dev,.int .i64 d.kind,.int .i64 d.mode,.int .i64 d.uid,.int .i64 d.gid,.int .i64 d.mtime,.int .i64 d.ctime,.int .i64 d.links,.int .i64 d.up,.string d.data,.slice ea el ec] 109)=X at hX hbX ⊢;have HBX:=Lib.hid hbX;have HBW:=Lib.hid (HB2.out.trans (hbX.mono HB2.out.size));obtain⟨xc,xf,xz⟩:=hX.facts;clear hX hbX;generalize entFind d.ents n=f at HE HF;go_wp2_with fail;refine (HF.out _ HBX.out).mono ?_;rintro e w2 ⟨rfl,hb2⟩;have HB3:=Lib.hid (bnext HBW.out hb2);clear hb2 xc xf xz;by_cases hf:f=0
  ·have HE1:=Lib.hid (HE.out.trans (if_pos hf));have hf1:(f == 0)=true:=by simpa using hf
   clear hf;go_wp2_with fail;go_ret2;rw [HE1.out];exact⟨rfl,HB3.out⟩
  ·have HE1:=Lib.hid (HE.out.trans (if_neg hf));have hf1:(f == 0)=false:=by simpa using hf
   clear hf;go_wp2_with fail;refine (HOv.out _ HB3.out _).mono ?_;rintro e w3 ⟨rfl,hb3⟩;have HB4:=Lib.hid (bnext HB3.out hb3);clear hb3;go_wp2_with fail;go_ret2;rw [HE1.out];exact⟨rfl,HB4.out⟩
end
section
variable {w w':World} {pf pw:Nat} {R:Rp} {pv:Value} {Y:Sy}
theorem slook_any (h:SyAt w pf pw R pv Y) {N:Nat} (hk:FsOk Y.fs N) (hN:N≤999999) (c:Cr) (dir:Int) (n:ByteArray) :
  Calls Tryz.prog 96 #[.pointer (some ⟨pf,0,none⟩),.agg #[.int .i64 c.u,.int .i64 c.g],.int .i64 dir,.string n] w fun e w'=>e=.returned (.tuple #[.int .i64 (Y.fs.lookF Y.dead c dir n).1,.int .i64 (Y.fs.lookF Y.dead c dir n).2])∧Below w.heap.size w w':=by
 have hCX:=Blk.new w #[.int .i64 c.u,.int .i64 c.g] 27;have hbX:=balloc (Below.refl w.heap.size w) (.cells #[.int .i64 c.u,.int .i64 c.g] 27);have HR:=Lib.hid (fun w1 (hb1:Below w.heap.size w w1)=>sread_any (h.keep hb1));have HS:=Lib.hid (fun w1 (hb1:Below w.heap.size w w1)=>plook_any (h.wd.keep hb1) hk hN c dir n);obtain⟨pc,-,pz⟩:=h.blk.facts;have HPC:=Lib.hid (fun w1 (hb1:Below w.heap.size w w1)=>show w1.cell? ⟨pf,0,none⟩=some (.pointer (some ⟨pw,0,none⟩)) from (hb1.cell (p:=⟨pf,0,none⟩) pz).trans (pc 0));have mixed:Tryz.prog.follows .mixedOrders=true:=by kernel_rfl
 clear h hk pc pz
 cases hd:Y.dead with
 | true=>
  rw [hd] at HR;clear hd HS;go_enter Tryz.func96,Tryz.ntmps96;go_wp2_with fail;refine (HR.out _ hbX).mono ?_;rintro e w1 ⟨rfl,rfl⟩;have HB:=Lib.hid hbX;clear hbX hCX;go_wp2_with fail;go_ret2;exact⟨rfl,HB.out⟩
 | false=>
  rw [hd] at HR;generalize Y.fs.lookF false c dir n=rd at HS ⊢;clear hd;go_enter Tryz.func96,Tryz.ntmps96;go_wp2_with fail;refine (HR.out _ hbX).mono ?_;rintro e w1 ⟨rfl,rfl⟩;generalize w.alloc (.cells #[.int .i64 c.u,.int .i64 c.g] 27)=W0 at hCX hbX ⊢;have HBX:=Lib.hid hbX;have pc0:=HPC.out _ hbX;obtain⟨cc,-,cz⟩:=hCX.facts;clear hCX hbX;go_wp2_with fail;refine wp_region_lex 7 mixed (by kernel_rfl) (show PanicOk _ from by repeat (first | exact pk_body | refine pk_then ?_ | refine pk_block ?_ | refine pk_scope ?_)) ?_;simp only [List.take_succ_cons,List.take_zero,List.drop_succ_cons,List.drop_zero]
  repeat still_step
  refine wpStill_nil ?_;go_wp2_with fail;refine (HS.out _ HBX.out.drew).mono ?_;rintro e w1 ⟨rfl,hb1⟩;have HB:=Lib.hid (HBX.out.drew.trans (hb1.mono HBX.out.size));clear hb1;go_wp2_with fail;go_ret2;exact⟨rfl,HB.out⟩
end
end
section
open Go.RowKit
theorem own_app1 {E SE:TypeId} {sz by_:Nat} {z:Value} (hs:Tryz.prog.underlying SE=some (.slice E)) (hinf:(Tryz.prog.info? E).map (fun i=>(i.zero,i.size,i.bytes))=some (some z,sz,by_)) (hz:z.cells.size=sz) (hsz:0<sz)
  {w:World} {base n:Nat} {v:Value} {xs:List Value} (h:w.ownsRow base E sz v n xs) (cs:List Value) (hl:cs.length=sz) (h1:∀ u∈cs,u.oneCell'=true) (hn:n≤1000000) (hby:by_≤1000) (hb:base≤w.heap.size) :
  ∃ g cap W,(Builtin.append_ #[SE,SE] SE #[v,.slice (some ⟨w.heap.size,0,none⟩) 1 1]).run Tryz.prog (w.alloc (.cells cs.toArray E))=.ok (.slice (some ⟨g,0,none⟩) (n+1) cap) W∧
   W.ownsRow base E sz (.slice (some ⟨g,0,none⟩) (n+1) cap) (n+1) (xs ++ cs)∧Mod (fun k=>v.ownBlock=some k) w W∧(v.ownBlock=some g∨w.heap.size<g):=by
 obtain⟨i0,hi,hz0,hz1,hz2⟩:=info_parts hinf;have ho:=World.ownsRow.alloc h (.cells cs.toArray E);have hm:(n+1)*by_≤(1000000+1)*1000:=Nat.mul_le_mul (by omega) hby;obtain⟨g,cap,W,h1,h2,h3,h4⟩:=step_app SE hs hi hz0 hz1 hz2 hz hsz ho ⟨w.heap.size,0,none⟩ 1 1 cs (by omega) (World.news_of_block (Blk.new w cs.toArray E)) h1 (by omega) (by unfold maxLen;omega) (by omega) (by rw [World.size_alloc];omega);exact⟨g,cap,W,h1,h2,((Mod.refl (fun j=>v.ownBlock=some j) w).alloc _).trans h3,h4.imp id (fun h=>by rw [h,World.size_alloc];omega)⟩
def plC (p:Plc):List Value:=[.int .i64 p.dir,.string p.name,.string p.top]
def plQ (cs:List Value) (p:Plc):Prop:=cs=plC p
def OPl (E:TypeId) (w:World) (base:Nat) (v:Value) (l:List Plc):Prop:=w.ownsRow base E 3 v l.length (l.flatMap plC)
section
variable {w w':World} {pf pw:Nat} {R:Rp} {pv:Value} {Y:Sy}
end
end
section
open Go.RowKit
def mtC (m:Mt):List Value:=[.string m.path,.int .i64 m.b,.int .i64 m.n]
theorem mtC_len (m:Mt):(mtC m).length=3:=rfl
def mtR (cs:List Value) (m:Mt):Prop:=cs=mtC m
def itC (x:It):List Value:=[.string x.path,.int .i64 x.kind,.int .i64 x.mode,.int .i64 x.uid,.int .i64 x.gid,.int .i64 x.mtime,.string x.data]
theorem itC_len (x:It):(itC x).length=7:=rfl
def itR (cs:List Value) (x:It):Prop:=cs=itC x
theorem SliceAt.keep {α:Type} {w w':World} {sz n c:Nat} {Rl:List Value→α→Prop} {a:Option Addr} {xs:List α} (h:SliceAt w sz Rl a n c xs) (hb:Below w.heap.size w w'):SliceAt w' sz Rl a n c xs:=h.below hb (Nat.le_refl _)
structure SdAt (w:World) (ma:Option Addr) (mn mc:Nat) (ia:Option Addr) (il ic:Nat) (ms:List Mt) (is:List It):Prop where
 m:SliceAt w 3 mtR ma mn mc ms
 i:SliceAt w 7 itR ia il ic is
theorem SdAt.keep {w w':World} {ma:Option Addr} {mn mc:Nat} {ia:Option Addr} {il ic:Nat} {ms:List Mt} {is:List It} (h:SdAt w ma mn mc ia il ic ms is) (hb:Below w.heap.size w w'):SdAt w' ma mn mc ia il ic ms is:=⟨h.m.keep hb,h.i.keep hb⟩
theorem mt_cells {w:World} {b off n c:Nat} {ms:List Mt} (h:SliceAt w 3 mtR (some ⟨b,off,none⟩) n c ms) (k:Nat) (hk:k<ms.length) :
  w.cell? ⟨b,off+k*3,none⟩=some (.string ms[k].path)∧w.cell? ⟨b,off+k*3+1,none⟩=some (.int .i64 ms[k].b)∧w.cell? ⟨b,off+k*3+2,none⟩=some (.int .i64 ms[k].n):=by
 obtain⟨hl,-,-,h0 | ⟨b',off',he,hb,hel⟩⟩:=h
 ·omega
 ·injection he with he;injection he with e1 e2;subst e1 e2;obtain⟨cs,h1,h2,h3⟩:=hel k hk;unfold mtR at h2;subst h2;exact⟨h3 0 (by rw [mtC_len];omega),h3 1 (by rw [mtC_len];omega),h3 2 (by rw [mtC_len];omega)⟩
theorem it_cells {w:World} {b off n c:Nat} {is:List It} (h:SliceAt w 7 itR (some ⟨b,off,none⟩) n c is) (k:Nat) (hk:k<is.length) :
  w.cell? ⟨b,off+k*7,none⟩=some (.string is[k].path)∧w.cell? ⟨b,off+k*7+1,none⟩=some (.int .i64 is[k].kind)∧w.cell? ⟨b,off+k*7+2,none⟩=some (.int .i64 is[k].mode)∧
  w.cell? ⟨b,off+k*7+3,none⟩=some (.int .i64 is[k].uid)∧w.cell? ⟨b,off+k*7+4,none⟩=some (.int .i64 is[k].gid)∧w.cell? ⟨b,off+k*7+5,none⟩=some (.int .i64 is[k].mtime)∧w.cell? ⟨b,off+k*7+6,none⟩=some (.string is[k].data):=by
 obtain⟨hl,-,-,h0 | ⟨b',off',he,hb,hel⟩⟩:=h
 ·omega
 ·injection he with he;injection he with e1 e2;subst e1 e2;obtain⟨cs,h1,h2,h3⟩:=hel k hk;unfold itR at h2;subst h2;exact⟨h3 0 (by rw [itC_len];omega),h3 1 (by rw [itC_len];omega),h3 2 (by rw [itC_len];omega),h3 3 (by rw [itC_len];omega),h3 4 (by rw [itC_len];omega),h3 5 (by rw [itC_len];omega),h3 6 (by rw [itC_len];omega)⟩
theorem slice_some {α:Type} {w:World} {sz n c:Nat} {Rl:List Value→α→Prop} {a:Option Addr} {xs:List α} (h:SliceAt w sz Rl a n c xs) (hn:0<n):∃ b off,a=some ⟨b,off,none⟩∧b<w.heap.size:=by
 obtain⟨-,-,-,h0 | ⟨b,off,he,hb,-⟩⟩:=h
 ·omega
 ·exact ⟨b,off,he,hb⟩
theorem limitsF_drop {ms:List Mt} {k:Nat} (hk:k<ms.length):limitsF (ms.drop k)=if ms[k].path=topB∧limB ms[k].b ms[k].n=true then (ms[k].b,ms[k].n) else limitsF (ms.drop (k+1)):=by
 rw [List.drop_eq_getElem_cons hk,limitsF]
theorem slimits_any (w:World) {ma:Option Addr} {mn mc:Nat} {ia:Option Addr} {il ic:Nat} {ms:List Mt} {is:List It} (h:SdAt w ma mn mc ia il ic ms is) :
  Calls Tryz.prog 130 #[.agg #[.slice ma mn mc,.slice ia il ic]] w fun e w'=>e=.returned (.tuple #[.int .i64 (limitsF ms).1,.int .i64 (limitsF ms).2])∧Below w.heap.size w w':=by
 have HS:=Lib.hid h;have hln:=h.m.1;have hmc:=h.m.2.1;have hmx:=h.m.2.2.1;clear h;go_enter Tryz.func130,Tryz.ntmps130;go_wp2_with fail
 go_loopw [9] (fun t9 wr=>∃ k:Nat,k≤ms.length∧t9=.int .i64 k∧limitsF ms=limitsF (ms.drop k)∧Below w.heap.size w wr) (fun t9 _=>ms.length - (intOf t9).toNat)
 case atStart=>exact ⟨0,Nat.zero_le _,rfl,rfl,balloc (Below.refl _ _) _⟩
 case round=>
  obtain⟨k,hk,rfl,hE,hb⟩:=hrel;have HE:=Lib.hid hE;have HB:=Lib.hid hb;clear hE;by_cases hlt:k<ms.length
  ·obtain ⟨b,off,rfl,hbl⟩:=slice_some HS.out.m (by omega);obtain⟨c0,c1,c2⟩:=mt_cells (HS.out.m.below hb (Nat.le_refl _)) k hlt;have HQ:=Lib.hid (limitsF_drop hlt);generalize ms[k]=m at c0 c1 c2 HQ;obtain⟨mp,mb,mk⟩:=m;have hX:=Blk.new wr #[.string mp,.int .i64 mb,.int .i64 mk] 159;have hbX:=balloc hb (.cells #[.string mp,.int .i64 mb,.int .i64 mk] 159);clear hb;go_upto_region 4 with fail;generalize wr.alloc (.cells #[.string mp,.int .i64 mb,.int .i64 mk] 159)=X at hX hbX ⊢;have HX:=Lib.hid hX;have HBX:=Lib.hid hbX;obtain⟨xc,xf,xz⟩:=hX.facts;clear hX hbX c0 c1 c2;by_cases h1:mp=topB
   ·have h1':mp.toList=[47]:=by rw [h1,ba_list];rfl
    have HP:=Lib.hid h1;clear h1;by_cases h2:mb<1
    ·skip
     have HN:=Lib.hid (HE.out.trans (HQ.out.trans (if_neg (fun h=>by have h9:1≤mb:=(lim_of h.2).1;omega))));go_wp2_with fail;go_roundw
     case rel=>exact ⟨k+1,by omega,by go_num,HN.out,HBX.out⟩
     case measure=>simp [intOf];omega
    by_cases h3:1073741824<mb
    ·skip
     have HN:=Lib.hid (HE.out.trans (HQ.out.trans (if_neg (fun h=>by have h9:mb≤1073741824:=(lim_of h.2).2.1;omega))));go_wp2_with fail;go_roundw
     case rel=>exact ⟨k+1,by omega,by go_num,HN.out,HBX.out⟩
     case measure=>simp [intOf];omega
    by_cases h4:mk<1
    ·skip
     have HN:=Lib.hid (HE.out.trans (HQ.out.trans (if_neg (fun h=>by have h9:1≤mk:=(lim_of h.2).2.2.1;omega))));go_wp2_with fail;go_roundw
     case rel=>exact ⟨k+1,by omega,by go_num,HN.out,HBX.out⟩
     case measure=>simp [intOf];omega
    by_cases h5:65536<mk
    ·skip
     have HN:=Lib.hid (HE.out.trans (HQ.out.trans (if_neg (fun h=>by have h9:mk≤65536:=(lim_of h.2).2.2.2;omega))));go_wp2_with fail;go_roundw
     case rel=>exact ⟨k+1,by omega,by go_num,HN.out,HBX.out⟩
     case measure=>simp [intOf];omega
    have HN:=Lib.hid (HE.out.trans (HQ.out.trans (if_pos ⟨HP.out,lim_mk mb mk (by omega) (by omega) (by omega) (by omega)⟩)));have mixed:Tryz.prog.follows .mixedOrders=true:=by kernel_rfl
    go_wp2_with fail
    go_region
    all_goals
     go_wp2_with fail;go_ret2;rw [HN.out];exact⟨rfl,HBX.out.drew⟩
   ·have h1':(mp.toList == [47])=false:=by
     rw [ba_list];simp only [beq_eq_false_iff_ne,ne_eq];exact fun e=>h1 (ba_eq e)
    have HN:=Lib.hid (HE.out.trans (HQ.out.trans (if_neg (fun h=>h1 h.1))));go_wp2_with fail;go_roundw
    case rel=>exact ⟨k+1,by omega,by go_num,HN.out,HBX.out⟩
    case measure=>simp [intOf];omega
  ·obtain rfl:k=ms.length:=by omega
   have HE2:=Lib.hid (show limitsF ms=(65536,65536) by rw [HE.out,List.drop_length];rfl);clear hb;go_wp2_with fail;go_ret2;rw [HE2.out];exact⟨rfl,HB.out⟩
end
section
open Go.RowKit
section
variable {w w':World} {pf pw:Nat} {R:Rp} {pv:Value} {Y:Sy}
theorem SyAt.other (h:SyAt w pf pw R pv Y) {B:Nat} {vs:Array Value} {T:TypeId} (hb:Blk w B vs T) (hT:wdKind (.cells #[] T (0,0))=false) (h1:T≠177) (h2:T≠113) (h3:T≠332) (hm:Mod (fun k=>k=B) w w'):SyAt w' pf pw R pv Y:=by
 unfold Blk at hb;refine ⟨h.blk.mod hm (fun e=>?_),h.wd.mod hm (fun k o hk ho=>?_),own_mod h.plan hm (fun k hk he=>?_)⟩
 ·subst e;have hq:=h.blk;unfold Blk at hq;rw [hb] at hq;injection hq with hq;injection hq with hq e;exact h1 e
 ·subst hk;rw [hb] at ho;injection ho with ho;subst ho;exact⟨hT,fun cur e=>by injection e with e1 e2;exact h2 e2⟩
 ·subst hk;obtain⟨-,cur,hc⟩:=own_obj1 h.plan he;rw [hb] at hc;injection hc with hc;injection hc with hc e;exact h3 e
theorem Stp.newCell {F F':Nat→Prop} (h:Stp F F' w w') {B:Nat} (hB:w.heap.size≤B) (i:Nat) (v:Value):Stp F F' w (w'.setCell ⟨B,i,none⟩ v):=
 ⟨h.mod.setCell (a:=⟨B,i,none⟩) (.inr hB) v,h.new⟩
theorem mount_err {S:Fs} {m:Mt} (h:(S.path c00 m.path false).2≠0):mountF S m=S:=by unfold mountF;rw [if_pos h]
theorem mount_new {S:Fs} {m:Mt} (h:(S.path c00 m.path false).2=0) (h0:(S.path c00 m.path false).1.no=0) (he:(S.mkdir c00 0 (S.path c00 m.path false).1.dir (S.path c00 m.path false).1.name 493).2.2=0) :
  mountF S m=((S.mkdir c00 0 (S.path c00 m.path false).1.dir (S.path c00 m.path false).1.name 493).1.mount (S.mkdir c00 0 (S.path c00 m.path false).1.dir (S.path c00 m.path false).1.name 493).2.1 m.b m.n).1:=by
 unfold mountF;rw [if_neg (by simp [h]),if_pos h0];simp only;rw [if_neg (by simp [he])]
theorem mount_full {S:Fs} {m:Mt} (h:(S.path c00 m.path false).2=0) (h0:(S.path c00 m.path false).1.no=0) (he:(S.mkdir c00 0 (S.path c00 m.path false).1.dir (S.path c00 m.path false).1.name 493).2.2≠0) :
  mountF S m=(S.mkdir c00 0 (S.path c00 m.path false).1.dir (S.path c00 m.path false).1.name 493).1:=by
 unfold mountF;rw [if_neg (by simp [h]),if_pos h0];simp only;rw [if_pos he]
theorem mount_old {S:Fs} {m:Mt} (h:(S.path c00 m.path false).2=0) (h0:(S.path c00 m.path false).1.no≠0):mountF S m=(S.mount (S.path c00 m.path false).1.no m.b m.n).1:=by
 unfold mountF;rw [if_neg (by simp [h]),if_neg h0]
theorem smount_any (h:SyAt w pf pw R pv Y) {N:Nat} (hk:FsOk Y.fs N) (hN:N≤999990) (hc:Calm Y) (hcc:Y.count≤4000000) (m:Mt) (hp:m.path.size≤100000) :
  Calls Tryz.prog 131 #[.pointer (some ⟨pf,0,none⟩),.agg #[.string m.path,.int .i64 m.b,.int .i64 m.n]] w fun e w'=>e=.returned (.tuple #[])∧Became w w' pf pw R pv Y (mountF Y.fs m) 1:=by
 have HY:=Lib.hid h;have HK:=Lib.hid hk;have HC:=Lib.hid hc;have HF:=Lib.hid (fun w1 (hb1:Below w.heap.size w w1)=>sfind_any (h.keep hb1) hk (by omega) hc.dead c00 m.path hp false);have HSz:=Lib.hid (path_size hk c00 m.path (by omega) false);have mixed:Tryz.prog.follows .mixedOrders=true:=by kernel_rfl
 have HE1:=Lib.hid (mount_err (S:=Y.fs) (m:=m));have HE2:=Lib.hid (mount_new (S:=Y.fs) (m:=m));have HE3:=Lib.hid (mount_full (S:=Y.fs) (m:=m));have HE4:=Lib.hid (mount_old (S:=Y.fs) (m:=m));generalize mountF Y.fs m=Z at HE1 HE2 HE3 HE4 ⊢;generalize Y.fs.path c00 m.path false=x at HF HSz HE1 HE2 HE3 HE4;obtain⟨⟨xd,xn,xk,xs⟩,xe⟩:=x;unfold Fd.v at HF;have hM0:=Blk.new w #[.string m.path,.int .i64 m.b,.int .i64 m.n] 159;have hb0:=balloc (Below.refl w.heap.size w) (.cells #[.string m.path,.int .i64 m.b,.int .i64 m.n] 159);clear h hk hc;go_enter Tryz.func131,Tryz.ntmps131;go_wp2_with fail;refine (HF.out _ hb0).mono ?_;rintro e w1 ⟨rfl,hb1⟩;have hMX:=(hM0.keep hb1).old (.cells #[.int .i64 xd,.string xn,.int .i64 xk,.bool xs] 58);have hXX:=Blk.new w1 #[.int .i64 xd,.string xn,.int .i64 xk,.bool xs] 58;have hbX:=balloc (bnext hb0 hb1) (.cells #[.int .i64 xd,.string xn,.int .i64 xk,.bool xs] 58);have hlw:w.heap.size<w1.heap.size:=by have:=hb1.size;simp at this;omega
 clear hM0 hb0 hb1;go_upto_region 2 with fail;generalize w1.alloc (.cells #[.int .i64 xd,.string xn,.int .i64 xk,.bool xs] 58)=X at hMX hXX hbX ⊢;have HMX:=Lib.hid hMX;have HXX:=Lib.hid hXX;have HBX:=Lib.hid hbX;obtain⟨xc,xf,xz⟩:=hXX.facts;obtain⟨mc,mf,mz⟩:=hMX.facts;have hYX:=HY.out.keep hbX;have HYX:=Lib.hid hYX;obtain⟨pc,-,pz⟩:=hYX.blk.facts;clear hMX hXX hbX hYX;by_cases he:xe=0
 ·have heb:(xe == 0)=true:=by simpa using he
  subst he;by_cases hno:xk=0
  ·have hnb:(xk == 0)=true:=by simpa using hno
   have HM:=Lib.hid (smkdir_any HYX.out HK.out (by omega) ⟨HC.out.c0,by omega⟩ (by rw [HC.out.plan];exact Nat.zero_le _) c00 xd xn 493 (by have h9:xn.size≤1048576:=HSz.out;omega));rw [HC.out.op] at HM;have HE2a:=Lib.hid (HE2.out rfl hno);have HE3a:=Lib.hid (HE3.out rfl hno);dsimp only at HE2a HE3a HM;have HOk:=Lib.hid (mkdir_ok HK.out c00 0 xd xn 493);clear HE1 HE2 HE3 HE4 hno;generalize Y.fs.mkdir c00 0 xd xn 493=q at HM HE2a HE3a HOk;obtain⟨S1,n1,e1⟩:=q;dsimp only at HM HE2a HE3a HOk;go_wp2_with fail;refine HM.out.mono ?_;rintro e w3 ⟨rfl,R3,hY3,hS3⟩;have hM3:=HMX.out.sy HYX.out hS3 rfl (by decide);have hX3:=HXX.out.sy HYX.out hS3 rfl (by decide);have HX3:=Lib.hid hX3;have HM3:=Lib.hid hM3;have HY3:=Lib.hid hY3;have HS3:=Lib.hid ((Stp.of_below HBX.out).trans hS3);clear xc xf xz mc mf mz pc pz;obtain⟨xc,xf,xz⟩:=hX3.facts;clear hM3 hX3 hY3 hS3;go_upto_region 4 with fail;have hY4:=HY3.out.other (HX3.out) rfl (by decide) (by decide) (by decide) ((Mod.refl (fun k=>k=w1.heap.size) w3).setCell (a:=⟨w1.heap.size,2,none⟩) (.inl rfl) (.int .i64 n1));have hX4:=HX3.out.set 2 (.int .i64 n1);have hne:w1.heap.size≠w.heap.size:=by have:=HX3.out.lt;have:=HMX.out.lt;have:=hlw;omega
   have hM4:=HM3.out.setOther ⟨w1.heap.size,2,none⟩ (.int .i64 n1) hne;have hS4:Stp (R.Y pf pw) (R3.Y pf pw) w (w3.setCell ⟨w1.heap.size,2,none⟩ (.int .i64 n1)):=HS3.out.newCell (show w.heap.size≤w1.heap.size by have:=hlw;omega) _ _;generalize w3.setCell ⟨w1.heap.size,2,none⟩ (.int .i64 n1)=W4 at hY4 hX4 hM4 hS4 ⊢;have HY4:=Lib.hid hY4;have HS4:=Lib.hid hS4;clear xc xf xz;obtain⟨xc,xf,xz⟩:=hX4.facts;obtain⟨mc,mf,mz⟩:=hM4.facts;obtain⟨pc,-,pz⟩:=hY4.blk.facts;clear hY4 hX4 hM4 hS4;by_cases he1:e1=0
   ·have he1b:(e1 == 0)=true:=by simpa using he1
    have HE:=Lib.hid (HE2a.out he1);have HMt:=Lib.hid (wmount_any (HY4.out.wd.keep (Below.refl _ W4).drew) HOk.out (by omega) n1 m.b m.n);subst he1;go_wp2_with fail;refine wp_region_lex 10 mixed (by kernel_rfl) (show PanicOk _ from by repeat (first | exact pk_body | refine pk_then ?_ | refine pk_block ?_ | refine pk_scope ?_)) ?_;simp only [List.take_succ_cons,List.take_zero,List.drop_succ_cons,List.drop_zero]
    repeat still_step
    refine wpStill_nil ?_;go_wp2_with fail;refine HMt.out.mono ?_;rintro e w5 ⟨rfl,R5,hR5,hS5⟩;have HX:=Lib.hid (And.intro ((HY4.out.keep (Below.refl _ W4).drew).step hR5 hS5) ((HS4.out.trans (stpY (Stp.of_below (F:=R3.F pw) (Below.refl _ W4).drew))).trans (stpY hS5)));clear hR5 hS5;go_wp2_with fail
    go_end0
    rw [HE.out];exact⟨rfl,R5,_,HX.out.1,rfl,(HC.out.next S1).fs _,by show Y.count+1≤_;omega,HX.out.2⟩
   ·have he1b:(e1 == 0)=false:=by simpa using he1
    have HE:=Lib.hid (HE3a.out he1);clear he1;go_wp2_with fail
    go_end0
    rw [HE.out];exact⟨rfl,R3,_,HY4.out,rfl,HC.out.next S1,by show Y.count+1≤_;omega,HS4.out⟩
  ·have hnb:(xk == 0)=false:=by simpa using hno
   have HE:=Lib.hid (HE4.out rfl hno);have HMt:=Lib.hid (wmount_any (HYX.out.wd.keep (Below.refl _ X).drew) HK.out (by omega) xk m.b m.n);clear HE1 HE2 HE3 HE4 hno;go_wp2_with fail;refine wp_region_lex 10 mixed (by kernel_rfl) (show PanicOk _ from by repeat (first | exact pk_body | refine pk_then ?_ | refine pk_block ?_ | refine pk_scope ?_)) ?_;simp only [List.take_succ_cons,List.take_zero,List.drop_succ_cons,List.drop_zero]
   repeat still_step
   refine wpStill_nil ?_;go_wp2_with fail;refine HMt.out.mono ?_;rintro e w5 ⟨rfl,R5,hR5,hS5⟩;have HX:=Lib.hid (And.intro ((HYX.out.keep (Below.refl _ X).drew).step hR5 hS5) (((Stp.of_below (F:=R.Y pf pw) HBX.out).trans (Stp.of_below (F:=R.Y pf pw) (Below.refl _ X).drew)).trans (stpY hS5)));clear hR5 hS5;go_wp2_with fail
   go_end0
   rw [HE.out];exact⟨rfl,R5,_,HX.out.1,rfl,HC.out.fs _,by show Y.count≤_;omega,HX.out.2⟩
 ·have heb:(xe == 0)=false:=by simpa using he
  have HE:=Lib.hid (HE1.out he);clear he;go_wp2_with fail
  go_end0
  rw [HE.out];exact⟨rfl,(Became.same HY.out HC.out HBX.out).mono (by omega)⟩
end
end
end Go.Proofs.YtihdbncoijhihaaGreatDoor
