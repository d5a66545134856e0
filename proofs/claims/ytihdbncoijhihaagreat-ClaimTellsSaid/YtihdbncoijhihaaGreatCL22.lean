import Derived.Test.YtihdbncoijhihaaGreatCL10
import Derived.Test.YtihdbncoijhihaaGreatCL21
set_option linter.unusedVariables false
set_option linter.unusedSimpArgs false
set_option maxRecDepth 100000
set_option maxHeartbeats 16000000
namespace Go.Proofs.YtihdbncoijhihaaGreat
section
open Go.RowKit
section
variable {w w':World} {pw:Nat} {R:Rp} {S:Fs}
theorem dir_any (h:WdAt w pw R S) {N:Nat} (hk:FsOk S N) (hN:N≤999999) (c:Cr) (now dir:Int) (s:ByteArray) (hs:s.size≤9223372036854775807) (mode:Int) :
  Calls Tryz.prog 134 #[.pointer (some ⟨pw,0,none⟩),.agg #[.int .i64 c.u,.int .i64 c.g],.int .i64 now,.int .i64 dir,.string s,.int .i64 mode] w fun e w'=>
   e=.returned (.tuple #[.int .i64 (S.mkdir c now dir s mode).2.1,.int .i64 (S.mkdir c now dir s mode).2.2])∧∃ R',WdAt w' pw R' (S.mkdir c now dir s mode).1∧Stp (R.F pw) (R'.F pw) w w':=by
 have HP:=Lib.hid (fun w1 (hb1:Below w.heap.size w w1)=>put_any (h.keep hb1) hk hN c now dir s hs {an0 with kind:=1,mode:=mode,up:=dir} rfl (by show (0:Nat)≤_;omega));unfold An.v an0 at HP;have HW:=Lib.hid h;clear h hk;by_cases h1:mode<0
 ·have HE:=Lib.hid (show S.mkdir c now dir s mode=(S,0,1) by unfold Fs.mkdir;rw [if_pos (.inl h1)]);go_enter Tryz.func134,Tryz.ntmps134;go_wp2_with fail;go_ret2;rw [HE.out];exact⟨rfl,R,HW.out.keep (by go_grown),Stp.of_below (by go_grown)⟩
 ·skip
  by_cases h2:1023<mode
  ·have HE:=Lib.hid (show S.mkdir c now dir s mode=(S,0,1) by unfold Fs.mkdir;rw [if_pos (.inr h2)]);go_enter Tryz.func134,Tryz.ntmps134;go_wp2_with fail;go_ret2;rw [HE.out];exact⟨rfl,R,HW.out.keep (by go_grown),Stp.of_below (by go_grown)⟩
  ·skip
   have HE:=Lib.hid (show S.mkdir c now dir s mode=S.come c now dir s {an0 with kind:=1,mode:=mode,up:=dir} by unfold Fs.mkdir;rw [if_neg (by omega)]);unfold an0 at HE;go_enter Tryz.func134,Tryz.ntmps134;go_wp2_with fail;refine (HP.out _ (by first | exact Below.refl _ _ | exact balloc (Below.refl _ _) _ | exact balloc (balloc (Below.refl _ _) _) _)).mono ?_;rintro e w1 ⟨rfl,R1,hR1,hS1⟩;have HR1:=Lib.hid (And.intro hR1 hS1);clear hR1 hS1 HP;go_wp2_with fail;go_ret2;rw [HE.out];exact⟨rfl,R1,HR1.out.1,(Stp.of_below (by go_grown)).trans HR1.out.2⟩
theorem file_any (h:WdAt w pw R S) {N:Nat} (hk:FsOk S N) (hN:N≤999999) (c:Cr) (now dir:Int) (s:ByteArray) (hs:s.size≤9223372036854775807) (mode:Int) (data:ByteArray) (hd:data.size≤9223372036854775807) :
  Calls Tryz.prog 80 #[.pointer (some ⟨pw,0,none⟩),.agg #[.int .i64 c.u,.int .i64 c.g],.int .i64 now,.int .i64 dir,.string s,.int .i64 mode,.string data] w fun e w'=>
   e=.returned (.tuple #[.int .i64 (S.file c now dir s mode data).2.1,.int .i64 (S.file c now dir s mode data).2.2])∧∃ R',WdAt w' pw R' (S.file c now dir s mode data).1∧Stp (R.F pw) (R'.F pw) w w':=by
 have HP:=Lib.hid (fun w1 (hb1:Below w.heap.size w w1)=>put_any (h.keep hb1) hk hN c now dir s hs {an0 with kind:=2,mode:=mode,data:=data} rfl (hd));unfold An.v an0 at HP;have HW:=Lib.hid h;clear h hk;by_cases h1:mode<0
 ·have HE:=Lib.hid (show S.file c now dir s mode data=(S,0,1) by unfold Fs.file;rw [if_pos (.inl h1)]);go_enter Tryz.func80,Tryz.ntmps80;go_wp2_with fail;go_ret2;rw [HE.out];exact⟨rfl,R,HW.out.keep (by go_grown),Stp.of_below (by go_grown)⟩
 ·skip
  by_cases h2:1023<mode
  ·have HE:=Lib.hid (show S.file c now dir s mode data=(S,0,1) by unfold Fs.file;rw [if_pos (.inr h2)]);go_enter Tryz.func80,Tryz.ntmps80;go_wp2_with fail;go_ret2;rw [HE.out];exact⟨rfl,R,HW.out.keep (by go_grown),Stp.of_below (by go_grown)⟩
  ·skip
   by_cases h3:1048576<data.size
   ·have HE:=Lib.hid (show S.file c now dir s mode data=(S,0,3) by unfold Fs.file;rw [if_neg (by omega),if_pos h3]);have h3n:(1048576:Int)<(data.size:Int):=by omega
    go_enter Tryz.func80,Tryz.ntmps80;go_wp2_with fail;go_ret2;rw [HE.out];exact⟨rfl,R,HW.out.keep (by go_grown),Stp.of_below (by go_grown)⟩
   ·skip
    have h3n:¬ (1048576:Int)<(data.size:Int):=by omega
    have HE:=Lib.hid (show S.file c now dir s mode data=S.come c now dir s {an0 with kind:=2,mode:=mode,data:=data} by unfold Fs.file;rw [if_neg (by omega),if_neg h3]);unfold an0 at HE;go_enter Tryz.func80,Tryz.ntmps80;go_wp2_with fail;refine (HP.out _ (by first | exact Below.refl _ _ | exact balloc (Below.refl _ _) _ | exact balloc (balloc (Below.refl _ _) _) _)).mono ?_;rintro e w1 ⟨rfl,R1,hR1,hS1⟩;have HR1:=Lib.hid (And.intro hR1 hS1);clear hR1 hS1 HP;go_wp2_with fail;go_ret2;rw [HE.out];exact⟨rfl,R1,HR1.out.1,(Stp.of_below (by go_grown)).trans HR1.out.2⟩
theorem sym_any (h:WdAt w pw R S) {N:Nat} (hk:FsOk S N) (hN:N≤999999) (c:Cr) (now dir:Int) (s:ByteArray) (hs:s.size≤9223372036854775807) (text:ByteArray) (hd:text.size≤9223372036854775807) :
  Calls Tryz.prog 230 #[.pointer (some ⟨pw,0,none⟩),.agg #[.int .i64 c.u,.int .i64 c.g],.int .i64 now,.int .i64 dir,.string s,.string text] w fun e w'=>
   e=.returned (.tuple #[.int .i64 (S.sym c now dir s text).2.1,.int .i64 (S.sym c now dir s text).2.2])∧∃ R',WdAt w' pw R' (S.sym c now dir s text).1∧Stp (R.F pw) (R'.F pw) w w':=by
 have HP:=Lib.hid (fun w1 (hb1:Below w.heap.size w w1)=>put_any (h.keep hb1) hk hN c now dir s hs {an0 with kind:=3,mode:=511,data:=text} rfl (hd));unfold An.v an0 at HP;have HW:=Lib.hid h;clear h hk;have H0:=Lib.hid (contains_any text);have hb:hasB text 0=decide ((0:UInt8)∈text.data.toList):=rfl;have HB0:=Lib.hid hb.symm;clear hb;generalize hasB text 0=b0 at H0 HB0;by_cases h1:text.toList=[]
 ·have HE:=Lib.hid (show S.sym c now dir s text=(S,0,1) by unfold Fs.sym;rw [if_pos (.inl (by rw [←ba_list];exact h1))]);go_enter Tryz.func230,Tryz.ntmps230;go_wp2_with (go_at_call 211;((with_reducible refine (H0.out _).mono ?_);rintro e w1 ⟨rfl,rfl⟩));go_ret2;rw [HE.out];exact⟨rfl,R,HW.out.keep (by go_grown),Stp.of_below (by go_grown)⟩
 ·skip
  have h1':text.toList.isEmpty=false:=by simpa using h1
  by_cases h2:b0=true
  ·have HE:=Lib.hid (show S.sym c now dir s text=(S,0,1) by unfold Fs.sym;rw [if_pos (.inr (of_decide_eq_true (HB0.out.trans h2)))]);subst h2;go_enter Tryz.func230,Tryz.ntmps230;go_wp2_with (go_at_call 211;((with_reducible refine (H0.out _).mono ?_);rintro e w1 ⟨rfl,rfl⟩));go_ret2;rw [HE.out];exact⟨rfl,R,HW.out.keep (by go_grown),Stp.of_below (by go_grown)⟩
  ·skip
   have h2':b0=false:=by simpa using h2
   subst h2';by_cases h3:4096<text.size
   ·have HE:=Lib.hid (show S.sym c now dir s text=(S,0,13) by unfold Fs.sym;rw [if_neg (by rintro (h | h);exact h1 (by rw [ba_list];exact h);exact absurd (HB0.out.symm.trans (decide_eq_true h)) (by decide)),if_pos h3]);have h3n:(4096:Int)<(text.size:Int):=by omega
    go_enter Tryz.func230,Tryz.ntmps230;go_wp2_with (go_at_call 211;((with_reducible refine (H0.out _).mono ?_);rintro e w1 ⟨rfl,rfl⟩));go_ret2;rw [HE.out];exact⟨rfl,R,HW.out.keep (by go_grown),Stp.of_below (by go_grown)⟩
   ·skip
    have h3n:¬ (4096:Int)<(text.size:Int):=by omega
    have HE:=Lib.hid (show S.sym c now dir s text=S.come c now dir s {an0 with kind:=3,mode:=511,data:=text} by unfold Fs.sym;rw [if_neg (by rintro (h | h);exact h1 (by rw [ba_list];exact h);exact absurd (HB0.out.symm.trans (decide_eq_true h)) (by decide)),if_neg h3]);unfold an0 at HE;go_enter Tryz.func230,Tryz.ntmps230;go_wp2_with (go_at_call 211;((with_reducible refine (H0.out _).mono ?_);rintro e w1 ⟨rfl,rfl⟩));refine (HP.out _ (by first | exact Below.refl _ _ | exact balloc (Below.refl _ _) _ | exact balloc (balloc (Below.refl _ _) _) _)).mono ?_;rintro e w1 ⟨rfl,R1,hR1,hS1⟩;have HR1:=Lib.hid (And.intro hR1 hS1);clear hR1 hS1 HP;go_wp2_with fail;go_ret2;rw [HE.out];exact⟨rfl,R1,HR1.out.1,(Stp.of_below (by go_grown)).trans HR1.out.2⟩
end
end
section
open Go.RowKit
theorem change_fs (Y:Sy):Y.change.1.fs=Y.fs∧Y.change.1.now=Y.now∧Y.change.1.plan=Y.plan:=by
 unfold Sy.change
 split
 ·exact ⟨rfl,rfl,rfl⟩
 ·split <;> exact ⟨rfl,rfl,rfl⟩
def Sy.op (Y:Sy) (g:Fs→Int→Fs×Int×Int):Sy×Int×Int:=
 if Y.change.2≠0 then (Y.change.1,0,Y.change.2) else ({Y.change.1 with fs:=(g Y.fs Y.now).1},(g Y.fs Y.now).2)
def Sy.opE (Y:Sy) (g:Fs→Int→Fs×Int):Sy×Int:=
 if Y.change.2≠0 then (Y.change.1,Y.change.2) else ({Y.change.1 with fs:=(g Y.fs Y.now).1},(g Y.fs Y.now).2)
section
variable {w w':World} {pf pw:Nat} {R:Rp} {pv:Value} {Y:Sy}
theorem smkdir_any (h:SyAt w pf pw R pv Y) {N:Nat} (hk:FsOk Y.fs N) (hN:N≤999999) (hc:0≤Y.count∧Y.count≤4611686018427387904) (hl:Y.plan.length≤1000000) (c:Cr) (dir:Int) (s:ByteArray) (mode:Int) (hs:s.size≤9223372036854775807) :
  Calls Tryz.prog 74 #[.pointer (some ⟨pf,0,none⟩),.agg #[.int .i64 c.u,.int .i64 c.g],.int .i64 dir,.string s,.int .i64 mode] w fun e w'=>
   e=.returned (.tuple #[.int .i64 (Y.op (fun S now=>S.mkdir c now dir s mode)).2.1,.int .i64 (Y.op (fun S now=>S.mkdir c now dir s mode)).2.2])∧∃ R',SyAt w' pf pw R' pv (Y.op (fun S now=>S.mkdir c now dir s mode)).1∧Stp (R.Y pf pw) (R'.Y pf pw) w w':=by
 have HY:=Lib.hid h;have HC:=Lib.hid (change_any (h.keep ((Below.refl _ w).alloc (Nat.le_refl _) (.cells #[.int .i64 c.u,.int .i64 c.g] 67))) hc hl);obtain⟨hf1,hf2,hf3⟩:=change_fs Y;have HF:=Lib.hid (And.intro hf1 hf2);have hpf:=h.blk.lt;have hk1:FsOk Y.change.1.fs N:=by rw [hf1];exact hk
 have mixed:Tryz.prog.follows .mixedOrders=true:=by kernel_rfl
 clear h hk hf1 hf2 hf3;go_enter Tryz.func74,Tryz.ntmps74;go_wp2_with fail;refine HC.out.mono ?_;rintro e w1 ⟨rfl,hY1,hm1⟩;have HS1:=Lib.hid ((stpY (Stp.of_below (F:=R.F pw) (balloc (Below.refl w.heap.size w) (.cells #[.int .i64 c.u,.int .i64 c.g] 67)))).trans (stpF (pw:=pw) (R:=R) hm1));by_cases h0:Y.change.2=0
 ·have h0b:(Y.change.2 == 0)=true:=by simpa using h0
  have HE:=Lib.hid (show Y.op (fun S now=>S.mkdir c now dir s mode)=_ from if_neg (by simp [h0]));have hcr:=(Blk.new w #[.int .i64 c.u,.int .i64 c.g] 67).mod hm1 (by omega);obtain⟨cc,-,cz⟩:=hcr.facts;obtain⟨pc,-,pz⟩:=hY1.blk.facts;have HD:=Lib.hid (dir_any (hY1.wd.keep (Below.refl _ w1).drew) hk1 hN c Y.change.1.now dir s hs mode);have HY1:=Lib.hid hY1;clear h0 hcr hY1 hm1;go_wp2_with fail;refine wp_region_lex 12 mixed (by kernel_rfl) (show PanicOk _ from by repeat (first | exact pk_body | refine pk_then ?_ | refine pk_block ?_ | refine pk_scope ?_)) ?_;simp only [List.take_succ_cons,List.take_zero,List.drop_succ_cons,List.drop_zero]
  repeat still_step
  refine wpStill_nil ?_;go_wp2_with fail;refine HD.out.mono ?_;rintro e w5 ⟨rfl,R5,hR5,hS5⟩;have HY5:=Lib.hid ((HY1.out.keep (Below.refl _ w1).drew).step hR5 hS5);have HS5:=Lib.hid ((HS1.out.trans (stpY (Stp.of_below (F:=R.F pw) (Below.refl _ w1).drew))).trans (stpY hS5));clear hR5 hS5;go_wp2_with fail;go_ret2;rw [HE.out,HF.out.1.symm,HF.out.2.symm];exact⟨rfl,R5,HY5.out,HS5.out⟩
 ·have h0b:(Y.change.2 == 0)=false:=by simpa using h0
  have HE:=Lib.hid (show Y.op (fun S now=>S.mkdir c now dir s mode)=_ from if_pos h0);have HY1:=Lib.hid hY1;clear hY1 h0 hm1;generalize Y.change.2=ce at HE h0b ⊢;go_wp2_with fail;go_ret2;rw [HE.out];exact⟨rfl,R,HY1.out,HS1.out⟩
theorem screate_any (h:SyAt w pf pw R pv Y) {N:Nat} (hk:FsOk Y.fs N) (hN:N≤999999) (hc:0≤Y.count∧Y.count≤4611686018427387904) (hl:Y.plan.length≤1000000) (c:Cr) (dir:Int) (s:ByteArray) (mode:Int) (data:ByteArray) (hs:s.size≤9223372036854775807) (hdata:data.size≤9223372036854775807) :
  Calls Tryz.prog 35 #[.pointer (some ⟨pf,0,none⟩),.agg #[.int .i64 c.u,.int .i64 c.g],.int .i64 dir,.string s,.int .i64 mode,.string data] w fun e w'=>
   e=.returned (.tuple #[.int .i64 (Y.op (fun S now=>S.file c now dir s mode data)).2.1,.int .i64 (Y.op (fun S now=>S.file c now dir s mode data)).2.2])∧∃ R',SyAt w' pf pw R' pv (Y.op (fun S now=>S.file c now dir s mode data)).1∧Stp (R.Y pf pw) (R'.Y pf pw) w w':=by
 have HY:=Lib.hid h;have HC:=Lib.hid (change_any (h.keep ((Below.refl _ w).alloc (Nat.le_refl _) (.cells #[.int .i64 c.u,.int .i64 c.g] 67))) hc hl);obtain⟨hf1,hf2,hf3⟩:=change_fs Y;have HF:=Lib.hid (And.intro hf1 hf2);have hpf:=h.blk.lt;have hk1:FsOk Y.change.1.fs N:=by rw [hf1];exact hk
 have mixed:Tryz.prog.follows .mixedOrders=true:=by kernel_rfl
 clear h hk hf1 hf2 hf3;go_enter Tryz.func35,Tryz.ntmps35;go_wp2_with fail;refine HC.out.mono ?_;rintro e w1 ⟨rfl,hY1,hm1⟩;have HS1:=Lib.hid ((stpY (Stp.of_below (F:=R.F pw) (balloc (Below.refl w.heap.size w) (.cells #[.int .i64 c.u,.int .i64 c.g] 67)))).trans (stpF (pw:=pw) (R:=R) hm1));by_cases h0:Y.change.2=0
 ·have h0b:(Y.change.2 == 0)=true:=by simpa using h0
  have HE:=Lib.hid (show Y.op (fun S now=>S.file c now dir s mode data)=_ from if_neg (by simp [h0]));have hcr:=(Blk.new w #[.int .i64 c.u,.int .i64 c.g] 67).mod hm1 (by omega);obtain⟨cc,-,cz⟩:=hcr.facts;obtain⟨pc,-,pz⟩:=hY1.blk.facts;have HD:=Lib.hid (file_any (hY1.wd.keep (Below.refl _ w1).drew) hk1 hN c Y.change.1.now dir s hs mode data hdata);have HY1:=Lib.hid hY1;clear h0 hcr hY1 hm1;go_wp2_with fail;refine wp_region_lex 13 mixed (by kernel_rfl) (show PanicOk _ from by repeat (first | exact pk_body | refine pk_then ?_ | refine pk_block ?_ | refine pk_scope ?_)) ?_;simp only [List.take_succ_cons,List.take_zero,List.drop_succ_cons,List.drop_zero]
  repeat still_step
  refine wpStill_nil ?_;go_wp2_with fail;refine HD.out.mono ?_;rintro e w5 ⟨rfl,R5,hR5,hS5⟩;have HY5:=Lib.hid ((HY1.out.keep (Below.refl _ w1).drew).step hR5 hS5);have HS5:=Lib.hid ((HS1.out.trans (stpY (Stp.of_below (F:=R.F pw) (Below.refl _ w1).drew))).trans (stpY hS5));clear hR5 hS5;go_wp2_with fail;go_ret2;rw [HE.out,HF.out.1.symm,HF.out.2.symm];exact⟨rfl,R5,HY5.out,HS5.out⟩
 ·have h0b:(Y.change.2 == 0)=false:=by simpa using h0
  have HE:=Lib.hid (show Y.op (fun S now=>S.file c now dir s mode data)=_ from if_pos h0);have HY1:=Lib.hid hY1;clear hY1 h0 hm1;generalize Y.change.2=ce at HE h0b ⊢;go_wp2_with fail;go_ret2;rw [HE.out];exact⟨rfl,R,HY1.out,HS1.out⟩
theorem ssym_any (h:SyAt w pf pw R pv Y) {N:Nat} (hk:FsOk Y.fs N) (hN:N≤999999) (hc:0≤Y.count∧Y.count≤4611686018427387904) (hl:Y.plan.length≤1000000) (c:Cr) (dir:Int) (s:ByteArray) (text:ByteArray) (hs:s.size≤9223372036854775807) (htext:text.size≤9223372036854775807) :
  Calls Tryz.prog 164 #[.pointer (some ⟨pf,0,none⟩),.agg #[.int .i64 c.u,.int .i64 c.g],.int .i64 dir,.string s,.string text] w fun e w'=>
   e=.returned (.tuple #[.int .i64 (Y.op (fun S now=>S.sym c now dir s text)).2.1,.int .i64 (Y.op (fun S now=>S.sym c now dir s text)).2.2])∧∃ R',SyAt w' pf pw R' pv (Y.op (fun S now=>S.sym c now dir s text)).1∧Stp (R.Y pf pw) (R'.Y pf pw) w w':=by
 have HY:=Lib.hid h;have HC:=Lib.hid (change_any (h.keep ((Below.refl _ w).alloc (Nat.le_refl _) (.cells #[.int .i64 c.u,.int .i64 c.g] 67))) hc hl);obtain⟨hf1,hf2,hf3⟩:=change_fs Y;have HF:=Lib.hid (And.intro hf1 hf2);have hpf:=h.blk.lt;have hk1:FsOk Y.change.1.fs N:=by rw [hf1];exact hk
 have mixed:Tryz.prog.follows .mixedOrders=true:=by kernel_rfl
 clear h hk hf1 hf2 hf3;go_enter Tryz.func164,Tryz.ntmps164;go_wp2_with fail;refine HC.out.mono ?_;rintro e w1 ⟨rfl,hY1,hm1⟩;have HS1:=Lib.hid ((stpY (Stp.of_below (F:=R.F pw) (balloc (Below.refl w.heap.size w) (.cells #[.int .i64 c.u,.int .i64 c.g] 67)))).trans (stpF (pw:=pw) (R:=R) hm1));by_cases h0:Y.change.2=0
 ·have h0b:(Y.change.2 == 0)=true:=by simpa using h0
  have HE:=Lib.hid (show Y.op (fun S now=>S.sym c now dir s text)=_ from if_neg (by simp [h0]));have hcr:=(Blk.new w #[.int .i64 c.u,.int .i64 c.g] 67).mod hm1 (by omega);obtain⟨cc,-,cz⟩:=hcr.facts;obtain⟨pc,-,pz⟩:=hY1.blk.facts;have HD:=Lib.hid (sym_any (hY1.wd.keep (Below.refl _ w1).drew) hk1 hN c Y.change.1.now dir s hs text htext);have HY1:=Lib.hid hY1;clear h0 hcr hY1 hm1;go_wp2_with fail;refine wp_region_lex 12 mixed (by kernel_rfl) (show PanicOk _ from by repeat (first | exact pk_body | refine pk_then ?_ | refine pk_block ?_ | refine pk_scope ?_)) ?_;simp only [List.take_succ_cons,List.take_zero,List.drop_succ_cons,List.drop_zero]
  repeat still_step
  refine wpStill_nil ?_;go_wp2_with fail;refine HD.out.mono ?_;rintro e w5 ⟨rfl,R5,hR5,hS5⟩;have HY5:=Lib.hid ((HY1.out.keep (Below.refl _ w1).drew).step hR5 hS5);have HS5:=Lib.hid ((HS1.out.trans (stpY (Stp.of_below (F:=R.F pw) (Below.refl _ w1).drew))).trans (stpY hS5));clear hR5 hS5;go_wp2_with fail;go_ret2;rw [HE.out,HF.out.1.symm,HF.out.2.symm];exact⟨rfl,R5,HY5.out,HS5.out⟩
 ·have h0b:(Y.change.2 == 0)=false:=by simpa using h0
  have HE:=Lib.hid (show Y.op (fun S now=>S.sym c now dir s text)=_ from if_pos h0);have HY1:=Lib.hid hY1;clear hY1 h0 hm1;generalize Y.change.2=ce at HE h0b ⊢;go_wp2_with fail;go_ret2;rw [HE.out];exact⟨rfl,R,HY1.out,HS1.out⟩
theorem slink_any (h:SyAt w pf pw R pv Y) {N:Nat} (hk:FsOk Y.fs N) (hN:N≤999999) (hc:0≤Y.count∧Y.count≤4611686018427387904) (hl:Y.plan.length≤1000000) (c:Cr) (no:Int) (dir:Int) (s:ByteArray) (hs:s.size≤9223372036854775807) :
  Calls Tryz.prog 165 #[.pointer (some ⟨pf,0,none⟩),.agg #[.int .i64 c.u,.int .i64 c.g],.int .i64 no,.int .i64 dir,.string s] w fun e w'=>
   e=.returned (.int .i64 (Y.opE (fun S now=>S.hard c now no dir s)).2)∧∃ R',SyAt w' pf pw R' pv (Y.opE (fun S now=>S.hard c now no dir s)).1∧Stp (R.Y pf pw) (R'.Y pf pw) w w':=by
 have HY:=Lib.hid h;have HC:=Lib.hid (change_any (h.keep ((Below.refl _ w).alloc (Nat.le_refl _) (.cells #[.int .i64 c.u,.int .i64 c.g] 67))) hc hl);obtain⟨hf1,hf2,hf3⟩:=change_fs Y;have HF:=Lib.hid (And.intro hf1 hf2);have hpf:=h.blk.lt;have hk1:FsOk Y.change.1.fs N:=by rw [hf1];exact hk
 have mixed:Tryz.prog.follows .mixedOrders=true:=by kernel_rfl
 clear h hk hf1 hf2 hf3;go_enter Tryz.func165,Tryz.ntmps165;go_wp2_with fail;refine HC.out.mono ?_;rintro e w1 ⟨rfl,hY1,hm1⟩;have HS1:=Lib.hid ((stpY (Stp.of_below (F:=R.F pw) (balloc (Below.refl w.heap.size w) (.cells #[.int .i64 c.u,.int .i64 c.g] 67)))).trans (stpF (pw:=pw) (R:=R) hm1));by_cases h0:Y.change.2=0
 ·have h0b:(Y.change.2 == 0)=true:=by simpa using h0
  have HE:=Lib.hid (show Y.opE (fun S now=>S.hard c now no dir s)=_ from if_neg (by simp [h0]));have hcr:=(Blk.new w #[.int .i64 c.u,.int .i64 c.g] 67).mod hm1 (by omega);obtain⟨cc,-,cz⟩:=hcr.facts;obtain⟨pc,-,pz⟩:=hY1.blk.facts;have HD:=Lib.hid (hard_any (hY1.wd.keep (Below.refl _ w1).drew) hk1 hN c Y.change.1.now no dir s hs);have HY1:=Lib.hid hY1;clear h0 hcr hY1 hm1;go_wp2_with fail;refine wp_region_lex 12 mixed (by kernel_rfl) (show PanicOk _ from by repeat (first | exact pk_body | refine pk_then ?_ | refine pk_block ?_ | refine pk_scope ?_)) ?_;simp only [List.take_succ_cons,List.take_zero,List.drop_succ_cons,List.drop_zero]
  repeat still_step
  refine wpStill_nil ?_;go_wp2_with fail;refine HD.out.mono ?_;rintro e w5 ⟨rfl,R5,hR5,hS5⟩;have HY5:=Lib.hid ((HY1.out.keep (Below.refl _ w1).drew).step hR5 hS5);have HS5:=Lib.hid ((HS1.out.trans (stpY (Stp.of_below (F:=R.F pw) (Below.refl _ w1).drew))).trans (stpY hS5));clear hR5 hS5;go_wp2_with fail;go_ret;rw [HE.out,HF.out.1.symm,HF.out.2.symm];exact⟨rfl,R5,HY5.out,HS5.out⟩
 ·have h0b:(Y.change.2 == 0)=false:=by simpa using h0
  have HE:=Lib.hid (show Y.opE (fun S now=>S.hard c now no dir s)=_ from if_pos h0);have HY1:=Lib.hid hY1;clear hY1 h0 hm1;generalize Y.change.2=ce at HE h0b ⊢;go_wp2_with fail;go_ret;rw [HE.out];exact⟨rfl,R,HY1.out,HS1.out⟩
theorem schmod_any (h:SyAt w pf pw R pv Y) {N:Nat} (hk:FsOk Y.fs N) (hN:N≤999999) (hc:0≤Y.count∧Y.count≤4611686018427387904) (hl:Y.plan.length≤1000000) (c:Cr) (no:Int) (mode:Int)  :
  Calls Tryz.prog 108 #[.pointer (some ⟨pf,0,none⟩),.agg #[.int .i64 c.u,.int .i64 c.g],.int .i64 no,.int .i64 mode] w fun e w'=>
   e=.returned (.int .i64 (Y.opE (fun S now=>S.chmod c now no mode)).2)∧∃ R',SyAt w' pf pw R' pv (Y.opE (fun S now=>S.chmod c now no mode)).1∧Stp (R.Y pf pw) (R'.Y pf pw) w w':=by
 have HY:=Lib.hid h;have HC:=Lib.hid (change_any (h.keep ((Below.refl _ w).alloc (Nat.le_refl _) (.cells #[.int .i64 c.u,.int .i64 c.g] 67))) hc hl);obtain⟨hf1,hf2,hf3⟩:=change_fs Y;have HF:=Lib.hid (And.intro hf1 hf2);have hpf:=h.blk.lt;have hk1:FsOk Y.change.1.fs N:=by rw [hf1];exact hk
 have mixed:Tryz.prog.follows .mixedOrders=true:=by kernel_rfl
 clear h hk hf1 hf2 hf3;go_enter Tryz.func108,Tryz.ntmps108;go_wp2_with fail;refine HC.out.mono ?_;rintro e w1 ⟨rfl,hY1,hm1⟩;have HS1:=Lib.hid ((stpY (Stp.of_below (F:=R.F pw) (balloc (Below.refl w.heap.size w) (.cells #[.int .i64 c.u,.int .i64 c.g] 67)))).trans (stpF (pw:=pw) (R:=R) hm1));by_cases h0:Y.change.2=0
 ·have h0b:(Y.change.2 == 0)=true:=by simpa using h0
  have HE:=Lib.hid (show Y.opE (fun S now=>S.chmod c now no mode)=_ from if_neg (by simp [h0]));have hcr:=(Blk.new w #[.int .i64 c.u,.int .i64 c.g] 67).mod hm1 (by omega);obtain⟨cc,-,cz⟩:=hcr.facts;obtain⟨pc,-,pz⟩:=hY1.blk.facts;have HD:=Lib.hid (mode_any (hY1.wd.keep (Below.refl _ w1).drew) hk1 c Y.change.1.now no mode);have HY1:=Lib.hid hY1;clear h0 hcr hY1 hm1;go_wp2_with fail;refine wp_region_lex 11 mixed (by kernel_rfl) (show PanicOk _ from by repeat (first | exact pk_body | refine pk_then ?_ | refine pk_block ?_ | refine pk_scope ?_)) ?_;simp only [List.take_succ_cons,List.take_zero,List.drop_succ_cons,List.drop_zero]
  repeat still_step
  refine wpStill_nil ?_;go_wp2_with fail;refine HD.out.mono ?_;rintro e w5 ⟨rfl,R5,hR5,hS5⟩;have HY5:=Lib.hid ((HY1.out.keep (Below.refl _ w1).drew).step hR5 hS5);have HS5:=Lib.hid ((HS1.out.trans (stpY (Stp.of_below (F:=R.F pw) (Below.refl _ w1).drew))).trans (stpY hS5));clear hR5 hS5;go_wp2_with fail;go_ret;rw [HE.out,HF.out.1.symm,HF.out.2.symm];exact⟨rfl,R5,HY5.out,HS5.out⟩
 ·have h0b:(Y.change.2 == 0)=false:=by simpa using h0
  have HE:=Lib.hid (show Y.opE (fun S now=>S.chmod c now no mode)=_ from if_pos h0);have HY1:=Lib.hid hY1;clear hY1 h0 hm1;generalize Y.change.2=ce at HE h0b ⊢;go_wp2_with fail;go_ret;rw [HE.out];exact⟨rfl,R,HY1.out,HS1.out⟩
theorem schown_any (h:SyAt w pf pw R pv Y) {N:Nat} (hk:FsOk Y.fs N) (hN:N≤999999) (hc:0≤Y.count∧Y.count≤4611686018427387904) (hl:Y.plan.length≤1000000) (c:Cr) (no:Int) (uid:Int) (gid:Int)  :
  Calls Tryz.prog 107 #[.pointer (some ⟨pf,0,none⟩),.agg #[.int .i64 c.u,.int .i64 c.g],.int .i64 no,.int .i64 uid,.int .i64 gid] w fun e w'=>
   e=.returned (.int .i64 (Y.opE (fun S now=>S.chown c now no uid gid)).2)∧∃ R',SyAt w' pf pw R' pv (Y.opE (fun S now=>S.chown c now no uid gid)).1∧Stp (R.Y pf pw) (R'.Y pf pw) w w':=by
 have HY:=Lib.hid h;have HC:=Lib.hid (change_any (h.keep ((Below.refl _ w).alloc (Nat.le_refl _) (.cells #[.int .i64 c.u,.int .i64 c.g] 67))) hc hl);obtain⟨hf1,hf2,hf3⟩:=change_fs Y;have HF:=Lib.hid (And.intro hf1 hf2);have hpf:=h.blk.lt;have hk1:FsOk Y.change.1.fs N:=by rw [hf1];exact hk
 have mixed:Tryz.prog.follows .mixedOrders=true:=by kernel_rfl
 clear h hk hf1 hf2 hf3;go_enter Tryz.func107,Tryz.ntmps107;go_wp2_with fail;refine HC.out.mono ?_;rintro e w1 ⟨rfl,hY1,hm1⟩;have HS1:=Lib.hid ((stpY (Stp.of_below (F:=R.F pw) (balloc (Below.refl w.heap.size w) (.cells #[.int .i64 c.u,.int .i64 c.g] 67)))).trans (stpF (pw:=pw) (R:=R) hm1));by_cases h0:Y.change.2=0
 ·have h0b:(Y.change.2 == 0)=true:=by simpa using h0
  have HE:=Lib.hid (show Y.opE (fun S now=>S.chown c now no uid gid)=_ from if_neg (by simp [h0]));have hcr:=(Blk.new w #[.int .i64 c.u,.int .i64 c.g] 67).mod hm1 (by omega);obtain⟨cc,-,cz⟩:=hcr.facts;obtain⟨pc,-,pz⟩:=hY1.blk.facts;have HD:=Lib.hid (owner_any (hY1.wd.keep (Below.refl _ w1).drew) hk1 c Y.change.1.now no uid gid);have HY1:=Lib.hid hY1;clear h0 hcr hY1 hm1;go_wp2_with fail;refine wp_region_lex 12 mixed (by kernel_rfl) (show PanicOk _ from by repeat (first | exact pk_body | refine pk_then ?_ | refine pk_block ?_ | refine pk_scope ?_)) ?_;simp only [List.take_succ_cons,List.take_zero,List.drop_succ_cons,List.drop_zero]
  repeat still_step
  refine wpStill_nil ?_;go_wp2_with fail;refine HD.out.mono ?_;rintro e w5 ⟨rfl,R5,hR5,hS5⟩;have HY5:=Lib.hid ((HY1.out.keep (Below.refl _ w1).drew).step hR5 hS5);have HS5:=Lib.hid ((HS1.out.trans (stpY (Stp.of_below (F:=R.F pw) (Below.refl _ w1).drew))).trans (stpY hS5));clear hR5 hS5;go_wp2_with fail;go_ret;rw [HE.out,HF.out.1.symm,HF.out.2.symm];exact⟨rfl,R5,HY5.out,HS5.out⟩
 ·have h0b:(Y.change.2 == 0)=false:=by simpa using h0
  have HE:=Lib.hid (show Y.opE (fun S now=>S.chown c now no uid gid)=_ from if_pos h0);have HY1:=Lib.hid hY1;clear hY1 h0 hm1;generalize Y.change.2=ce at HE h0b ⊢;go_wp2_with fail;go_ret;rw [HE.out];exact⟨rfl,R,HY1.out,HS1.out⟩
theorem sutime_any (h:SyAt w pf pw R pv Y) {N:Nat} (hk:FsOk Y.fs N) (hN:N≤999999) (hc:0≤Y.count∧Y.count≤4611686018427387904) (hl:Y.plan.length≤1000000) (c:Cr) (no:Int) (t:Int)  :
  Calls Tryz.prog 109 #[.pointer (some ⟨pf,0,none⟩),.agg #[.int .i64 c.u,.int .i64 c.g],.int .i64 no,.int .i64 t] w fun e w'=>
   e=.returned (.int .i64 (Y.opE (fun S now=>S.utime c now no t)).2)∧∃ R',SyAt w' pf pw R' pv (Y.opE (fun S now=>S.utime c now no t)).1∧Stp (R.Y pf pw) (R'.Y pf pw) w w':=by
 have HY:=Lib.hid h;have HC:=Lib.hid (change_any (h.keep ((Below.refl _ w).alloc (Nat.le_refl _) (.cells #[.int .i64 c.u,.int .i64 c.g] 67))) hc hl);obtain⟨hf1,hf2,hf3⟩:=change_fs Y;have HF:=Lib.hid (And.intro hf1 hf2);have hpf:=h.blk.lt;have hk1:FsOk Y.change.1.fs N:=by rw [hf1];exact hk
 have mixed:Tryz.prog.follows .mixedOrders=true:=by kernel_rfl
 clear h hk hf1 hf2 hf3;go_enter Tryz.func109,Tryz.ntmps109;go_wp2_with fail;refine HC.out.mono ?_;rintro e w1 ⟨rfl,hY1,hm1⟩;have HS1:=Lib.hid ((stpY (Stp.of_below (F:=R.F pw) (balloc (Below.refl w.heap.size w) (.cells #[.int .i64 c.u,.int .i64 c.g] 67)))).trans (stpF (pw:=pw) (R:=R) hm1));by_cases h0:Y.change.2=0
 ·have h0b:(Y.change.2 == 0)=true:=by simpa using h0
  have HE:=Lib.hid (show Y.opE (fun S now=>S.utime c now no t)=_ from if_neg (by simp [h0]));have hcr:=(Blk.new w #[.int .i64 c.u,.int .i64 c.g] 67).mod hm1 (by omega);obtain⟨cc,-,cz⟩:=hcr.facts;obtain⟨pc,-,pz⟩:=hY1.blk.facts;have HD:=Lib.hid (time_any (hY1.wd.keep (Below.refl _ w1).drew) hk1 c Y.change.1.now no t);have HY1:=Lib.hid hY1;clear h0 hcr hY1 hm1;go_wp2_with fail;refine wp_region_lex 11 mixed (by kernel_rfl) (show PanicOk _ from by repeat (first | exact pk_body | refine pk_then ?_ | refine pk_block ?_ | refine pk_scope ?_)) ?_;simp only [List.take_succ_cons,List.take_zero,List.drop_succ_cons,List.drop_zero]
  repeat still_step
  refine wpStill_nil ?_;go_wp2_with fail;refine HD.out.mono ?_;rintro e w5 ⟨rfl,R5,hR5,hS5⟩;have HY5:=Lib.hid ((HY1.out.keep (Below.refl _ w1).drew).step hR5 hS5);have HS5:=Lib.hid ((HS1.out.trans (stpY (Stp.of_below (F:=R.F pw) (Below.refl _ w1).drew))).trans (stpY hS5));clear hR5 hS5;go_wp2_with fail;go_ret;rw [HE.out,HF.out.1.symm,HF.out.2.symm];exact⟨rfl,R5,HY5.out,HS5.out⟩
 ·have h0b:(Y.change.2 == 0)=false:=by simpa using h0
  have HE:=Lib.hid (show Y.opE (fun S now=>S.utime c now no t)=_ from if_pos h0);have HY1:=Lib.hid hY1;clear hY1 h0 hm1;generalize Y.change.2=ce at HE h0b ⊢;go_wp2_with fail;go_ret;rw [HE.out];exact⟨rfl,R,HY1.out,HS1.out⟩
end
end
end Go.Proofs.YtihdbncoijhihaaGreat
