import Derived.Test.YtihdbncoijhihaaGreatCL34
import Derived.Test.YtihdbncoijhihaaGreatCL32
import Derived.Test.YtihdbncoijhihaaGreatCL30
import Derived.Test.YtihdbncoijhihaaGreatCL28
import Derived.Test.YtihdbncoijhihaaGreatCL33
import Derived.Test.YtihdbncoijhihaaGreatCL24
set_option linter.unusedVariables false
set_option linter.unusedSimpArgs false
set_option maxRecDepth 100000
set_option maxHeartbeats 16000000
namespace Go.Proofs.YtihdbncoijhihaaGreat
section
open Go.RowKit
section
variable {w w':World} {pf:Nat} {R:Rf} {S:Fs}
theorem rdata_any (h:RfAt w pf R S) {N:Nat} (hk:FsOk S N) (hd:R.dd=.bool false) (u:Us) (ht:u.data.size≤100000) :
  Calls Tryz.prog 65 #[.pointer (some ⟨pf,0,none⟩),.agg #[.int .i64 u.u,.int .i64 u.g,.string u.data]] w fun e w'=>e=.returned (.tuple #[.int .i64 (S.dataF false u).1,.int .i64 (S.dataF false u).2])∧Below w.heap.size w w':=by
 have hX:=Blk.new w #[.int .i64 u.u,.int .i64 u.g,.string u.data] 27;have hbX:=balloc (Below.refl w.heap.size w) (.cells #[.int .i64 u.u,.int .i64 u.g,.string u.data] 27);have HC:=Lib.hid (rcred_any u.u u.g u.data);have HF:=Lib.hid (fun w1 (hb:Below w.heap.size w w1)=>rfind21_any (h.keep hb) hk hd u.c u.data ht true);have HG:=Lib.hid (fun w1 (hb1:Below w.heap.size w w1) k=>rgetZ_fix (h.keep hb1) k);have HR:=Lib.hid (show S.dataF false u=if (S.path u.c u.data true).2≠0 then (0,(S.path u.c u.data true).2) else if (S.path u.c u.data true).1.no=0 then (0,5) else if (S.getZ (S.path u.c u.data true).1.no).kind≠1 then (0,9) else ((S.path u.c u.data true).1.no,0) by unfold Fs.dataF;rw [if_neg (by decide)]);generalize S.dataF false u=rd at HR ⊢;generalize S.path u.c u.data true=x at HR HF;obtain⟨⟨x1,x2,x3,x4⟩,x5⟩:=x;unfold Fd.v Us.c at HF;dsimp only at HR HF;clear h hk hd;go_enter Tryz.func65,Tryz.ntmps65;go_upto_region 1 with fail;generalize w.alloc (.cells #[.int .i64 u.u,.int .i64 u.g,.string u.data] 27)=W0 at hX hbX ⊢;have HBX:=Lib.hid hbX;obtain⟨xc,xf,xz⟩:=hX.facts;clear hX
 go_cut [6,7] (fun t6 t7 wx=>∃ Bd:Nat,t6=.pointer (some ⟨Bd,0,none⟩)∧t7=.int .i64 x5∧Blk wx Bd #[.int .i64 x1,.string x2,.int .i64 x3,.bool x4] 118∧Below w.heap.size w wx)
 case first=>
  go_wp2_with fail;have hzz:W0.heap.size≤W0.heap.size:=Nat.le_refl _
  go_region_held3 (fun w'=>(∀ b o,b<W0.heap.size→w'.cell? ⟨b,o,none⟩=W0.cell? ⟨b,o,none⟩)∧Below W0.heap.size W0 w') (first | with_reducible assumption | with_reducible exact keepS_here _ | with_reducible exact keepS_here2 _ | with_reducible exact keepS_call (by assumption) (by assumption) | with_reducible exact keepS_alloc (by assumption) _ | with_reducible exact keepS_allocD (by assumption) _ | with_reducible exact keepS_realloc (by assumption) (by assumption) | with_reducible exact keepS_set4 (by assumption) (by assumption))
   ((first
    | (go_at_call 25;((with_reducible refine (HC.out _).mono ?_);rintro e w4 ⟨rfl,hb4⟩;have hz4:=Nat.le_trans (And.right ‹(∀ b o,b<W0.heap.size→_)∧Below W0.heap.size W0 _›).size hb4.size;try (have hbq:=new_drew hb4;obtain ⟨bqc,bqf,bqz⟩:=hbq.facts)))
    | (go_at_call 126;((with_reducible refine (HF.out _ (HBX.out.trans ((And.right ‹(∀ b o,b<W0.heap.size→_)∧Below W0.heap.size W0 _›).mono HBX.out.size))).mono ?_);rintro e w5 ⟨rfl,hb5⟩;have hz5:=Nat.le_trans (And.right ‹(∀ b o,b<W0.heap.size→_)∧Below W0.heap.size W0 _›).size hb5.size;first | (have hbr:=hbq.keep hb5;obtain ⟨brc,brf,brz⟩:=hbr.facts) | (have hbr:=new_drew hb5;obtain ⟨brc,brf,brz⟩:=hbr.facts) | (have hbr:=new_keep hb5;obtain ⟨brc,brf,brz⟩:=hbr.facts) | skip))))
  all_goals
   obtain⟨-,hS4⟩:=‹_∧Below W0.heap.size W0 _›;have HS4:=Lib.hid hS4
   try (have HQ4:=Lib.hid hbr)
   clear hS4;go_wp2_with fail;go_meet;exact⟨_,rfl,rfl,by first | exact HQ4.out.set4 | exact Blk.new _ _ _,HBX.out.trans (HS4.out.mono HBX.out.size)⟩
 case rest=>
  obtain⟨Bd,rfl,rfl,hDX,hbY⟩:=hcut;generalize wc=X at hDX hbY ⊢;have HBY:=Lib.hid hbY;have HDX:=Lib.hid hDX;obtain⟨dc,df,dz⟩:=hDX.facts;clear hbX hDX hbY xc xf xz;by_cases h5:x5=0
  ·subst h5;have HR1:=Lib.hid (HR.out.trans (if_neg (by decide)));by_cases hn:x3=0
   ·have hnb:(x3 == 0)=true:=by simpa using hn
    have HR2:=Lib.hid (HR1.out.trans (if_pos hn));clear hn;go_wp2_with fail;go_ret2;rw [HR2.out];exact⟨rfl,HBY.out⟩
   ·have hnb:(x3 == 0)=false:=by simpa using hn
    have HR2:=Lib.hid (HR1.out.trans (if_neg hn));obtain⟨ea,el,ec,-,hG1⟩:=HG.out _ HBY.out x3;have HG1:=Lib.hid hG1;unfold An.v at HG1;generalize S.getZ x3=a at HR2 HG1;have hfd:∀ w,(Instr.field 49 (.agg #[.int .i64 a.no,.int .i64 a.dev,.int .i64 a.kind,.int .i64 a.mode,.int .i64 a.uid,.int .i64 a.gid,.int .i64 a.mtime,.int .i64 a.ctime,.int .i64 a.links,.int .i64 a.up,.string a.data,.slice ea el ec]) 2).run Tryz.prog w=.ok (.int .i64 a.kind) w:=fun _=>by kernel_rfl
    clear hn hG1;go_wp2_with fail;refine (HG1.out _ (Below.refl _ _)).mono ?_;rintro e w6 ⟨rfl,hb6⟩;have hD6:=HDX.out.keep hb6;have HBZ:=Lib.hid (bnext HBY.out hb6);clear hb6 dc df dz;obtain⟨dc,df,dz⟩:=hD6.facts;clear hD6;by_cases h1:a.kind=1
    ·have h1':(a.kind != 1)=false:=by simpa using h1
     have HR3:=Lib.hid (HR2.out.trans (if_neg (by simpa using h1)));clear h1;go_wp2_with fail;go_ret2;rw [HR3.out];exact⟨rfl,HBZ.out⟩
    ·have h1':(a.kind != 1)=true:=by simpa using h1
     have HR3:=Lib.hid (HR2.out.trans (if_pos h1));clear h1;go_wp2_with fail;go_ret2;rw [HR3.out];exact⟨rfl,HBZ.out⟩
  ·have h5':(x5 != 0)=true:=by simpa using h5
   have HR1:=Lib.hid (HR.out.trans (if_pos h5));clear h5;go_wp2_with fail;go_ret2;rw [HR1.out];exact⟨rfl,HBY.out⟩
theorem rcommon_any (h:RfAt w pf R S) {N:Nat} (hk:FsOk S N) (hd:R.dd=.bool false) (u g:Int) (t:ByteArray) (top:Int) :
  Calls Tryz.prog 129 #[.pointer (some ⟨pf,0,none⟩),.agg #[.int .i64 u,.int .i64 g,.string t],.int .i64 top] w fun e w'=>e=.returned (.tuple #[.int .i64 (S.commonF false ⟨u,g⟩ top).1,.int .i64 (S.commonF false ⟨u,g⟩ top).2])∧Below w.heap.size w w':=by
 have hX:=Blk.new w #[.int .i64 u,.int .i64 g,.string t] 27;have hbX:=balloc (Below.refl w.heap.size w) (.cells #[.int .i64 u,.int .i64 g,.string t] 27);have HC:=Lib.hid (rcred_any u g t);have HL:=Lib.hid (fun w1 (hb1:Below w.heap.size w w1)=>rlook_any (h.keep hb1) hk hd ⟨u,g⟩ top nShared);have HG:=Lib.hid (fun w1 (hb1:Below w.heap.size w w1) k=>rgetZ_fix (h.keep hb1) k);have HR:=Lib.hid (show S.commonF false ⟨u,g⟩ top=if (S.lookF false ⟨u,g⟩ top nShared).2≠0 then (0,(S.lookF false ⟨u,g⟩ top nShared).2) else comV (S.getZ (S.lookF false ⟨u,g⟩ top nShared).1) (S.getZ top) (S.lookF false ⟨u,g⟩ top nShared).1 from rfl);generalize S.commonF false ⟨u,g⟩ top=rd at HR ⊢;generalize S.lookF false ⟨u,g⟩ top nShared=r at HR HL;obtain⟨no,e1⟩:=r;unfold nShared at HL;dsimp only at HR HL;clear h hk hd;go_enter Tryz.func129,Tryz.ntmps129;go_upto_region 1 with fail;generalize w.alloc (.cells #[.int .i64 u,.int .i64 g,.string t] 27)=W0 at hX hbX ⊢;have HBX:=Lib.hid hbX;obtain⟨xc,xf,xz⟩:=hX.facts;clear hX hbX;go_wp2_with fail;refine (HC.out _).mono ?_;rintro e w1 ⟨rfl,hb1⟩;have HB1:=Lib.hid (bnext HBX.out hb1);clear hb1 xc xf xz;go_wp2_with fail;refine (HL.out _ HB1.out).mono ?_;rintro e w2 ⟨rfl,hb2⟩;have HB2:=Lib.hid (bnext HB1.out hb2);clear hb2;by_cases h0:e1=0
 ·subst h0;have HE:=Lib.hid (HR.out.trans (if_neg (by decide)));obtain⟨ea,el,ec,-,hG1⟩:=HG.out _ HB2.out no;have HG1:=Lib.hid hG1;unfold An.v at HG1;generalize S.getZ no=x at HE HG1;clear hG1;go_wp2_with fail;refine (HG1.out _ (Below.refl _ _)).mono ?_;rintro e w3 ⟨rfl,hb3⟩;have hb4:=balloc (bnext HB2.out hb3) (.cells #[.int .i64 x.no,.int .i64 x.dev,.int .i64 x.kind,.int .i64 x.mode,.int .i64 x.uid,.int .i64 x.gid,.int .i64 x.mtime,.int .i64 x.ctime,.int .i64 x.links,.int .i64 x.up,.string x.data,.slice ea el ec] 49);have hN4:=Blk.new w3 #[.int .i64 x.no,.int .i64 x.dev,.int .i64 x.kind,.int .i64 x.mode,.int .i64 x.uid,.int .i64 x.gid,.int .i64 x.mtime,.int .i64 x.ctime,.int .i64 x.links,.int .i64 x.up,.string x.data,.slice ea el ec] 49;clear hb3;go_upto_region 5 with fail;generalize w3.alloc (.cells #[.int .i64 x.no,.int .i64 x.dev,.int .i64 x.kind,.int .i64 x.mode,.int .i64 x.uid,.int .i64 x.gid,.int .i64 x.mtime,.int .i64 x.ctime,.int .i64 x.links,.int .i64 x.up,.string x.data,.slice ea el ec] 49)=W4 at hb4 hN4 ⊢;have HB4:=Lib.hid hb4;have HN4:=Lib.hid hN4;obtain⟨fa,fl,fc,-,hG2⟩:=HG.out _ HB4.out top;have HG2:=Lib.hid hG2;unfold An.v at HG2;generalize S.getZ top=y at HE HG2;obtain⟨nc,nf',nz⟩:=hN4.facts;clear hb4 hN4 hG2;have hfd:∀ w,(Instr.field 49 (.agg #[.int .i64 y.no,.int .i64 y.dev,.int .i64 y.kind,.int .i64 y.mode,.int .i64 y.uid,.int .i64 y.gid,.int .i64 y.mtime,.int .i64 y.ctime,.int .i64 y.links,.int .i64 y.up,.string y.data,.slice fa fl fc]) 1).run Tryz.prog w=.ok (.int .i64 y.dev) w:=fun _=>by kernel_rfl
  unfold comV at HE;by_cases h1:x.kind=1
  ·have h1':(x.kind != 1)=false:=by simpa using h1
   have HE1:=Lib.hid (HE.out.trans (if_neg (by simpa using h1)));go_wp2_with fail
   go_region_held3 (fun w'=>(∀ b o,b<W4.heap.size→w'.cell? ⟨b,o,none⟩=W4.cell? ⟨b,o,none⟩)∧Below W4.heap.size W4 w') (first | with_reducible assumption | with_reducible exact keepS_here _ | with_reducible exact keepS_here2 _ | with_reducible exact keepS_call (by assumption) (by assumption) | with_reducible exact keepS_alloc (by assumption) _ | with_reducible exact keepS_allocD (by assumption) _ | with_reducible exact keepS_realloc (by assumption) (by assumption) | with_reducible exact keepS_set4 (by assumption) (by assumption))
    ((first
     | (go_at_call 67;((with_reducible refine (HG2.out _ (And.right (by assumption))).mono ?_);rintro e w5 ⟨rfl,hb5⟩))))
   all_goals
    have hbz:Below W4.heap.size W4 w5:=And.right (by assumption);have HB6:=Lib.hid (bnext HB4.out hbz);have hN5:=HN4.out.keep hbz;clear hbz nc nf' nz;obtain⟨nc,nf',nz⟩:=hN5.facts;clear hN5;by_cases h2:x.dev=y.dev
    ·have h2':(x.dev != y.dev)=false:=by simpa using h2
     have HE2:=Lib.hid (HE1.out.trans (if_neg (by simpa using h2)));by_cases h3:x.mode<512
     ·have HE3:=Lib.hid (HE2.out.trans (if_pos h3));clear h1 h2;go_wp2_with fail;go_ret2;rw [HE3.out];exact⟨rfl,HB6.out⟩
     ·have HE3:=Lib.hid (HE2.out.trans (if_neg h3));have h3':(512:Int)≤x.mode:=by omega
      clear h1 h2;go_wp2_with fail;go_ret2;rw [HE3.out];exact⟨rfl,HB6.out⟩
    ·have h2':(x.dev != y.dev)=true:=by simpa using h2
     have HE2:=Lib.hid (HE1.out.trans (if_pos h2));clear h1 h2;go_wp2_with fail;go_ret2;rw [HE2.out];exact⟨rfl,HB6.out⟩
  ·have h1':(x.kind != 1)=true:=by simpa using h1
   have HE2:=Lib.hid (HE.out.trans (if_pos h1));clear h1;go_wp2_with fail;go_ret2;rw [HE2.out];exact⟨rfl,HB4.out⟩
 ·have h0':(e1 != 0)=true:=by simpa using h0
  have HE:=Lib.hid (HR.out.trans (if_pos h0));clear h0;go_wp2_with fail;go_ret2;rw [HE.out];exact⟨rfl,HB2.out⟩
theorem rplace_info:(Tryz.prog.info? 153).map (fun i=>(i.zero,i.size,i.bytes))=some (some (.agg #[.int .i64 0,.string ByteArray.empty,.string ByteArray.empty]),3,40):=by kernel_rfl
theorem rplaces_any (h:RfAt w pf R S) {N:Nat} (hk:FsOk S N) (hd:R.dd=.bool false) (u:Us) (hu0:-9223372036854775808≤u.u) (hu1:u.u≤9223372036854775807) (top:Int) (path:ByteArray) :
  Calls Tryz.prog 68 #[.pointer (some ⟨pf,0,none⟩),.agg #[.int .i64 u.u,.int .i64 u.g,.string u.data],.int .i64 top,.string path] w fun e w'=>∃ v,e=.returned v∧OPl 153 w' w.heap.size v (S.placesF false u top path)∧Below w.heap.size w w':=by
 have hX:=Blk.new w #[.int .i64 u.u,.int .i64 u.g,.string u.data] 27;have hbX:=balloc (Below.refl w.heap.size w) (.cells #[.int .i64 u.u,.int .i64 u.g,.string u.data] 27);have HD:=Lib.hid (fun w=>rdec_any u.u w hu0 hu1);have HC:=Lib.hid (fun w1 (hb1:Below w.heap.size w w1)=>rcommon_any (h.keep hb1) hk hd u.u u.g u.data top);have HR:=Lib.hid (show S.placesF false u top path=(if (S.commonF false ⟨u.u,u.g⟩ top).2=0 then [⟨(S.commonF false ⟨u.u,u.g⟩ top).1,str (decL u.u),path⟩] else []) ++ [⟨top,ByteArray.mk #[46,84,114,97,115,104,45] ++ str (decL u.u),path⟩] from rfl);generalize S.placesF false u top path=rd at HR ⊢;generalize S.commonF false ⟨u.u,u.g⟩ top=r at HR HC;have hid:(str (decL u.u)).size≤21:=by
  rw [str_size];exact (decL_len u.u hu0 hu1).1
 generalize str (decL u.u)=id at HR HD hid;obtain⟨no,e1⟩:=r;dsimp only at HR HC;clear h hk hd;go_enter Tryz.func68,Tryz.ntmps68;go_upto_region 1 with fail;generalize w.alloc (.cells #[.int .i64 u.u,.int .i64 u.g,.string u.data] 27)=W0 at hX hbX ⊢;have HX:=Lib.hid hX;have HBX:=Lib.hid hbX;obtain⟨xc,xf,xz⟩:=hX.facts;clear hX hbX;go_wp2_with fail;refine (HD.out _).mono ?_;rintro e w1 ⟨rfl,hb1⟩;have HB1:=Lib.hid (bnext HBX.out hb1);have hX1:=HX.out.keep hb1;clear hb1 xc xf xz;obtain⟨xc,xf,xz⟩:=hX1.facts;clear hX1;go_wp2_with fail;refine (HC.out _ HB1.out).mono ?_;rintro e w2 ⟨rfl,hb2⟩;have hB2:=bnext HB1.out hb2;have HB2:=Lib.hid hB2;clear hb2 xc xf xz;by_cases h0:e1=0
 ·subst h0;obtain⟨g1,c1,W1,r1,o1,b1⟩:=(OPl.nil 153 w2 w.heap.size).app (SE:=151) Tryz.underlying151 rplace_info ⟨no,id,path⟩ (by simp) hB2.size;obtain⟨g2,c2,W2,r2,o2,b2⟩:=o1.app (SE:=151) Tryz.underlying151 rplace_info ⟨top,ByteArray.mk #[46,84,114,97,115,104,45] ++ id,path⟩ (by simp) (Nat.le_trans hB2.size b1.size);have HR1:=Lib.hid r1;have HR2:=Lib.hid r2;have HO:=Lib.hid (And.intro o2 (And.intro b1 b2));have HE:=Lib.hid (show rd=[⟨no,id,path⟩] ++ [⟨top,ByteArray.mk #[46,84,114,97,115,104,45] ++ id,path⟩] by rw [HR.out];rfl);clear r1 r2 o1 o2 b1 b2 hB2;go_wp2_with (at_builtin;refine wpList_app_run rfl rfl rfl rfl (by first | exact HR1.out | exact HR2.out) ?_);go_ret;rw [HE.out];exact⟨_,rfl,HO.out.1,HB2.out.trans (HO.out.2.1.trans HO.out.2.2)⟩
 ·have h0':(e1 == 0)=false:=by simpa using h0
  obtain⟨g2,c2,W2,r2,o2,b2⟩:=(OPl.nil 153 w2 w.heap.size).app (SE:=151) Tryz.underlying151 rplace_info ⟨top,ByteArray.mk #[46,84,114,97,115,104,45] ++ id,path⟩ (by simp) hB2.size;have HR2:=Lib.hid r2;have HO:=Lib.hid (And.intro o2 b2);have HE:=Lib.hid (show rd=[] ++ [⟨top,ByteArray.mk #[46,84,114,97,115,104,45] ++ id,path⟩] by rw [HR.out,if_neg h0]);clear r2 o2 b2 hB2 h0;go_wp2_with (at_builtin;refine wpList_app_run rfl rfl rfl rfl HR2.out ?_);go_ret;rw [HE.out];exact⟨_,rfl,HO.out.1,HB2.out.trans HO.out.2⟩
end
end
section
open Go.RowKit
theorem ropen30_results {tmps:Array Value} {W:World} {B:Nat} {x:Cn} {e:Int} (hb:Blk W B #[.string x.path,.int .i64 x.dir,.int .i64 x.info,.int .i64 x.files,.int .i64 x.out,.int .i64 x.way,.string x.top] 38)
  (h8:tmps.getD 6 undef=.pointer (some ⟨B,0,none⟩)) (h9:tmps.getD 7 undef=.int .i64 e):(results Tryz.f93 tmps).run Tryz.prog W=.ok (.tuple #[x.v,.int .i64 e]) W:=by
 have q0:=hb.cell 0;have q1:=hb.cell 1;have q2:=hb.cell 2;have q3:=hb.cell 3;have q4:=hb.cell 4;have q5:=hb.cell 5;have q6:=hb.cell 6;rw [Array.getD_eq_getD_getElem?] at h8 h9;simp [results,Tryz.results93,go_sem,Cn.v,h8,h9,q0,q1,q2,q3,q4,q5,q6]
section
variable {w w':World} {pf:Nat} {R:Rf} {S:Fs}
theorem ropen30_any (h:RfAt w pf R S) {N:Nat} (hk:FsOk S N) (hp:Pl S) (hl:S.ns.length≤100000) {d:Bool} (hd:R.dd=.bool d) (u:Us) (p:Plc) :
  Calls Tryz.prog 93 #[.pointer (some ⟨pf,0,none⟩),.agg #[.int .i64 u.u,.int .i64 u.g,.string u.data],.agg #[.int .i64 p.dir,.string p.name,.string p.top]] w fun e w'=>e=.returned (.tuple #[(S.openF d u p).1.v,.int .i64 (S.openF d u p).2])∧Below w.heap.size w w':=by
 have HO:=Lib.hid (fun w1 (hb1:Below w.heap.size w w1) dir n=>rown_any (h.keep hb1) hk hd u.u u.g u.data dir n);have HT:=Lib.hid (fun w1 (hb1:Below w.heap.size w w1) dir n=>rthere_any (h.keep hb1) hk hd u.u u.g u.data dir n);have HWh:=Lib.hid (fun w1 (hb1:Below w.heap.size w w1) no=>rwhere_any (h.keep hb1) hk hp hl no);have HE0:=Lib.hid (show S.openF d u p=if (thereV (S.ownF d ⟨u.u,u.g⟩ p.dir p.name)).2≠0 then (cn0,(thereV (S.ownF d ⟨u.u,u.g⟩ p.dir p.name)).2) else S.openK4 d ⟨u.u,u.g⟩ (thereV (S.ownF d ⟨u.u,u.g⟩ p.dir p.name)).1 p.top from rfl);generalize S.openF d u p=rd at HE0 ⊢;have hUX:=((Blk.new w #[.int .i64 u.u,.int .i64 u.g,.string u.data] 27).old (.cells #[.int .i64 p.dir,.string p.name,.string p.top] 153)).old (.cells #[.string ⟨#[]⟩,.int .i64 0,.int .i64 0,.int .i64 0,.int .i64 0,.int .i64 0,.string ⟨#[]⟩] 38);have hPX:Blk (((w.alloc (.cells #[.int .i64 u.u,.int .i64 u.g,.string u.data] 27)).alloc (.cells #[.int .i64 p.dir,.string p.name,.string p.top] 153)).alloc (.cells #[.string ⟨#[]⟩,.int .i64 0,.int .i64 0,.int .i64 0,.int .i64 0,.int .i64 0,.string ⟨#[]⟩] 38)) (w.heap.size+1) #[.int .i64 p.dir,.string p.name,.string p.top] 153:=by
  have:=(Blk.new (w.alloc (.cells #[.int .i64 u.u,.int .i64 u.g,.string u.data] 27)) #[.int .i64 p.dir,.string p.name,.string p.top] 153).old (.cells #[.string ⟨#[]⟩,.int .i64 0,.int .i64 0,.int .i64 0,.int .i64 0,.int .i64 0,.string ⟨#[]⟩] 38)
  rwa [World.size_alloc] at this
 have hRX:Blk (((w.alloc (.cells #[.int .i64 u.u,.int .i64 u.g,.string u.data] 27)).alloc (.cells #[.int .i64 p.dir,.string p.name,.string p.top] 153)).alloc (.cells #[.string ⟨#[]⟩,.int .i64 0,.int .i64 0,.int .i64 0,.int .i64 0,.int .i64 0,.string ⟨#[]⟩] 38)) (w.heap.size+1+1) #[.string ⟨#[]⟩,.int .i64 0,.int .i64 0,.int .i64 0,.int .i64 0,.int .i64 0,.string ⟨#[]⟩] 38:=by
  have:=Blk.new ((w.alloc (.cells #[.int .i64 u.u,.int .i64 u.g,.string u.data] 27)).alloc (.cells #[.int .i64 p.dir,.string p.name,.string p.top] 153)) #[.string ⟨#[]⟩,.int .i64 0,.int .i64 0,.int .i64 0,.int .i64 0,.int .i64 0,.string ⟨#[]⟩] 38
  rwa [World.size_alloc,World.size_alloc] at this
 have hbX:=balloc (balloc (balloc (Below.refl w.heap.size w) (.cells #[.int .i64 u.u,.int .i64 u.g,.string u.data] 27)) (.cells #[.int .i64 p.dir,.string p.name,.string p.top] 153)) (.cells #[.string ⟨#[]⟩,.int .i64 0,.int .i64 0,.int .i64 0,.int .i64 0,.int .i64 0,.string ⟨#[]⟩] 38);clear h hk hp hl hd;go_enter Tryz.func93,Tryz.ntmps93;go_upto_region 1 with fail;generalize ((w.alloc (.cells #[.int .i64 u.u,.int .i64 u.g,.string u.data] 27)).alloc (.cells #[.int .i64 p.dir,.string p.name,.string p.top] 153)).alloc (.cells #[.string ⟨#[]⟩,.int .i64 0,.int .i64 0,.int .i64 0,.int .i64 0,.int .i64 0,.string ⟨#[]⟩] 38)=w0 at hUX hPX hRX hbX ⊢;have HB0:=Lib.hid hbX;have HU:=Lib.hid hUX;have HP:=Lib.hid hPX;have HR:=Lib.hid hRX;have hwz:=hbX.size;obtain⟨uc,uf,uz⟩:=hUX.facts;obtain⟨qc,qf,qz⟩:=hPX.facts;clear hUX hPX hRX hbX;have HC0:=Lib.hid (HT.out _ HB0.out p.dir p.name);generalize thereV (S.ownF d ⟨u.u,u.g⟩ p.dir p.name)=r at HC0 HE0;obtain⟨n0,e0⟩:=r;dsimp only at HC0 HE0;go_wp2_with fail;refine HC0.out.mono ?_;rintro e w1 ⟨rfl,hb⟩;have HG1:=Lib.hid ((hb:Below w0.heap.size w0 w1));clear hb uc uf uz qc qf qz;obtain⟨uc,uf,uz⟩:=(HU.out.keep HG1.out).facts;obtain⟨rc,rf,rz⟩:=(HR.out.keep HG1.out).facts;by_cases h0:e0=0
 ·subst h0;have HE1:=Lib.hid (HE0.out.trans (if_neg (by simp)));clear HE0 HC0;unfold Fs.openK4 at HE1;have HC1:=Lib.hid (HT.out _ (HB0.out.trans (HG1.out.mono HB0.out.size)) n0 nInfo);generalize thereV (S.ownF d ⟨u.u,u.g⟩ n0 nInfo)=r at HC1 HE1;obtain⟨n1,e1⟩:=r;dsimp only at HC1 HE1;unfold nInfo at HC1;go_wp2_with fail;refine HC1.out.mono ?_;rintro e w2 ⟨rfl,hb⟩;have HG2:=Lib.hid (bnext HG1.out hb);clear hb uc uf uz rc rf rz;obtain⟨uc,uf,uz⟩:=(HU.out.keep HG2.out).facts;obtain⟨rc,rf,rz⟩:=(HR.out.keep HG2.out).facts;by_cases h1:e1=0
  ·subst h1;have HE2:=Lib.hid (HE1.out.trans (if_neg (by simp)));clear HE1 HC1;unfold Fs.openK3 at HE2;have HC2:=Lib.hid (HT.out _ (HB0.out.trans (HG2.out.mono HB0.out.size)) n0 nFiles);generalize thereV (S.ownF d ⟨u.u,u.g⟩ n0 nFiles)=r at HC2 HE2;obtain⟨n2,e2⟩:=r;dsimp only at HC2 HE2;unfold nFiles at HC2;go_wp2_with fail;refine HC2.out.mono ?_;rintro e w3 ⟨rfl,hb⟩;have HG3:=Lib.hid (bnext HG2.out hb);clear hb uc uf uz rc rf rz;obtain⟨uc,uf,uz⟩:=(HU.out.keep HG3.out).facts;obtain⟨rc,rf,rz⟩:=(HR.out.keep HG3.out).facts;by_cases h2:e2=0
   ·subst h2;have HE3:=Lib.hid (HE2.out.trans (if_neg (by simp)));clear HE2 HC2;unfold Fs.openK2 at HE3;have HC3:=Lib.hid (HO.out _ (HB0.out.trans (HG3.out.mono HB0.out.size)) n0 nOut);generalize S.ownF d ⟨u.u,u.g⟩ n0 nOut=r at HC3 HE3;obtain⟨n3,e3⟩:=r;dsimp only at HC3 HE3;unfold nOut at HC3;go_wp2_with fail;refine HC3.out.mono ?_;rintro e w4 ⟨rfl,hb⟩;have HG4:=Lib.hid (bnext HG3.out hb);clear hb uc uf uz rc rf rz;obtain⟨uc,uf,uz⟩:=(HU.out.keep HG4.out).facts;obtain⟨rc,rf,rz⟩:=(HR.out.keep HG4.out).facts;by_cases h3:e3=0
    ·subst h3;have HE4:=Lib.hid (HE3.out.trans (if_neg (by simp)));clear HE3 HC3;unfold Fs.openK1 at HE4;have HC4:=Lib.hid (HO.out _ (HB0.out.trans (HG4.out.mono HB0.out.size)) n0 nWay);generalize S.ownF d ⟨u.u,u.g⟩ n0 nWay=r at HC4 HE4;obtain⟨n4,e4⟩:=r;dsimp only at HC4 HE4;unfold nWay at HC4;go_wp2_with fail;refine HC4.out.mono ?_;rintro e w5 ⟨rfl,hb⟩;have HG5:=Lib.hid (bnext HG4.out hb);clear hb uc uf uz rc rf rz;obtain⟨uc,uf,uz⟩:=(HU.out.keep HG5.out).facts;obtain⟨rc,rf,rz⟩:=(HR.out.keep HG5.out).facts;by_cases h4:e4=0
     ·subst h4;have HE5:=Lib.hid (HE4.out.trans (if_neg (by simp)));unfold Fs.openK0 at HE5;have HWk:=Lib.hid (HWh.out _ (HB0.out.trans (HG5.out.mono HB0.out.size)) n0);unfold whereV at HWk
      cases hpl:S.place_ n0 with
      | none=>
       rw [hpl] at HE5 HWk;clear hpl;go_wp2_with fail;refine HWk.out.mono ?_;rintro e w6 ⟨rfl,hb⟩;have HG6:=Lib.hid (bnext HG5.out hb);clear hb uc uf uz rc rf rz;obtain⟨qc,qf,qz⟩:=(HP.out.keep HG6.out).facts;obtain⟨rc,rf,rz⟩:=(HR.out.keep HG6.out).facts;go_wp2_with (exact bodyPost_ret (ropen30_results (x:=cn0) (e:=5) (HR.out.keep HG6.out).set7 rfl rfl) rfl ⟨by rw [HE5.out],below_set7 (HB0.out.trans (HG6.out.mono HB0.out.size)) (by omega)⟩)
      | some s=>
       rw [hpl] at HE5 HWk;clear hpl;go_wp2_with fail;refine HWk.out.mono ?_;rintro e w6 ⟨rfl,hb⟩;have HG6:=Lib.hid (bnext HG5.out hb);clear hb uc uf uz rc rf rz;obtain⟨qc,qf,qz⟩:=(HP.out.keep HG6.out).facts;obtain⟨rc,rf,rz⟩:=(HR.out.keep HG6.out).facts;go_wp2_with (exact bodyPost_ret (ropen30_results (x:=⟨s,n0,n1,n2,n3,n4,p.top⟩) (e:=0) (HR.out.keep HG6.out).set7 rfl rfl) rfl ⟨by rw [HE5.out],below_set7 (HB0.out.trans (HG6.out.mono HB0.out.size)) (by omega)⟩)
     ·have h':(e4 != 0)=true:=by simpa using h4
      have HF:=Lib.hid (HE4.out.trans (if_pos h4));clear h4;go_wp2_with (exact bodyPost_ret (ropen30_results (x:=cn0) (e:=e4) (HR.out.keep HG5.out).set7 rfl rfl) rfl ⟨by rw [HF.out],below_set7 (HB0.out.trans (HG5.out.mono HB0.out.size)) (by omega)⟩)
    ·have h':(e3 != 0)=true:=by simpa using h3
     have HF:=Lib.hid (HE3.out.trans (if_pos h3));clear h3;go_wp2_with (exact bodyPost_ret (ropen30_results (x:=cn0) (e:=e3) (HR.out.keep HG4.out).set7 rfl rfl) rfl ⟨by rw [HF.out],below_set7 (HB0.out.trans (HG4.out.mono HB0.out.size)) (by omega)⟩)
   ·have h':(e2 != 0)=true:=by simpa using h2
    have HF:=Lib.hid (HE2.out.trans (if_pos h2));clear h2;go_wp2_with (exact bodyPost_ret (ropen30_results (x:=cn0) (e:=e2) (HR.out.keep HG3.out).set7 rfl rfl) rfl ⟨by rw [HF.out],below_set7 (HB0.out.trans (HG3.out.mono HB0.out.size)) (by omega)⟩)
  ·have h':(e1 != 0)=true:=by simpa using h1
   have HF:=Lib.hid (HE1.out.trans (if_pos h1));clear h1;go_wp2_with (exact bodyPost_ret (ropen30_results (x:=cn0) (e:=e1) (HR.out.keep HG2.out).set7 rfl rfl) rfl ⟨by rw [HF.out],below_set7 (HB0.out.trans (HG2.out.mono HB0.out.size)) (by omega)⟩)
 ·have h':(e0 != 0)=true:=by simpa using h0
  have HF:=Lib.hid (HE0.out.trans (if_pos h0));clear h0;go_wp2_with (exact bodyPost_ret (ropen30_results (x:=cn0) (e:=e0) (HR.out.keep HG1.out).set7 rfl rfl) rfl ⟨by rw [HF.out],below_set7 (HB0.out.trans (HG1.out.mono HB0.out.size)) (by omega)⟩)
end
end
section
open Go.RowKit
theorem boxes3 (w:World) (a b c:Array Value) (A B C:TypeId):Blk (((w.alloc (.cells a A)).alloc (.cells b B)).alloc (.cells c C)) w.heap.size a A∧Blk (((w.alloc (.cells a A)).alloc (.cells b B)).alloc (.cells c C)) (w.heap.size+1) b B∧Blk (((w.alloc (.cells a A)).alloc (.cells b B)).alloc (.cells c C)) (w.heap.size+1+1) c C∧Below w.heap.size w (((w.alloc (.cells a A)).alloc (.cells b B)).alloc (.cells c C)):=by
 refine ⟨((Blk.new w a A).old _).old _,?_,?_,balloc (balloc (balloc (Below.refl w.heap.size w) _) _) _⟩
 ·have:=(Blk.new (w.alloc (.cells a A)) b B).old (.cells c C)
  rwa [World.size_alloc] at this
 ·have:=Blk.new ((w.alloc (.cells a A)).alloc (.cells b B)) c C
  rwa [World.size_alloc,World.size_alloc] at this
section
variable {w w' w'':World} {pf pw:Nat} {R R':Rp} {pv:Value} {Y Z:Sy}
theorem Goes.set7 (h:Goes w w' pf pw R pv Z) {B:Nat} {vs:Array Value} (hB:Blk w' B vs 38) (hw:w.heap.size≤B) (v0 v1 v2 v3 v4 v5 v6:Value) :
  Goes w (((((((w'.setCell ⟨B,0,none⟩ v0).setCell ⟨B,1,none⟩ v1).setCell ⟨B,2,none⟩ v2).setCell ⟨B,3,none⟩ v3).setCell ⟨B,4,none⟩ v4).setCell ⟨B,5,none⟩ v5).setCell ⟨B,6,none⟩ v6) pf pw R pv Z:=by
 obtain⟨R',h1,h2⟩:=h;have hm:Mod (fun k=>k=B) w' (((((((w'.setCell ⟨B,0,none⟩ v0).setCell ⟨B,1,none⟩ v1).setCell ⟨B,2,none⟩ v2).setCell ⟨B,3,none⟩ v3).setCell ⟨B,4,none⟩ v4).setCell ⟨B,5,none⟩ v5).setCell ⟨B,6,none⟩ v6):=
  (((((((Mod.refl (fun k=>k=B) w').setCell (a:=⟨B,0,none⟩) (.inl rfl) v0).setCell (a:=⟨B,1,none⟩) (.inl rfl) v1).setCell (a:=⟨B,2,none⟩) (.inl rfl) v2).setCell (a:=⟨B,3,none⟩) (.inl rfl) v3).setCell (a:=⟨B,4,none⟩) (.inl rfl) v4).setCell (a:=⟨B,5,none⟩) (.inl rfl) v5).setCell (a:=⟨B,6,none⟩) (.inl rfl) v6
 exact⟨R',h1.other hB (by decide) (by decide) (by decide) (by decide) hm,((((((h2.newCell hw 0 v0).newCell hw 1 v1).newCell hw 2 v2).newCell hw 3 v3).newCell hw 4 v4).newCell hw 5 v5).newCell hw 6 v6⟩
theorem lready_results {tmps:Array Value} {W:World} {B:Nat} {x:Cn} {e:Int} (hb:Blk W B #[.string x.path,.int .i64 x.dir,.int .i64 x.info,.int .i64 x.files,.int .i64 x.out,.int .i64 x.way,.string x.top] 38)
  (h8:tmps.getD 6 undef=.pointer (some ⟨B,0,none⟩)) (h9:tmps.getD 7 undef=.int .i64 e):(results Tryz.f56 tmps).run Tryz.prog W=.ok (.tuple #[x.v,.int .i64 e]) W:=by
 have q0:=hb.cell 0;have q1:=hb.cell 1;have q2:=hb.cell 2;have q3:=hb.cell 3;have q4:=hb.cell 4;have q5:=hb.cell 5;have q6:=hb.cell 6;rw [Array.getD_eq_getD_getElem?] at h8 h9;simp [results,Tryz.results56,go_sem,Cn.v,h8,h9,q0,q1,q2,q3,q4,q5,q6]
theorem part_at (k:Nat) (hk:k<4):∃ s,partNs.drop k=s :: partNs.drop (k+1)∧s.size≤9223372036854775807∧∀ w,(Instr.index 216 (.agg #[.string (ByteArray.mk #[105,110,102,111]),.string (ByteArray.mk #[102,105,108,101,115]),.string (ByteArray.mk #[101,120,112,117,110,103,101,100]),.string (ByteArray.mk #[109,111,118,105,110,103])]) (.int .i64 k)).run Tryz.prog w=.ok (.string s) w:=by
 rcases (by omega:k=0∨k=1∨k=2∨k=3) with rfl | rfl | rfl | rfl
 ·exact ⟨_,rfl,by decide,fun w=>(part_idx _ _ _ _ w).1⟩
 ·exact ⟨_,rfl,by decide,fun w=>(part_idx _ _ _ _ w).2.1⟩
 ·exact ⟨_,rfl,by decide,fun w=>(part_idx _ _ _ _ w).2.2.1⟩
 ·exact ⟨_,rfl,by decide,fun w=>(part_idx _ _ _ _ w).2.2.2⟩
theorem lready_any (h:SyAt w pf pw R pv Y) {N:Nat} (hk:SyOk Y N) (hN:N≤99000) (u:Us) (p:Plc) (hn:p.name.size≤9223372036854775807) :
  Calls Tryz.prog 56 #[.pointer (some ⟨pf,0,none⟩),.agg #[.int .i64 u.u,.int .i64 u.g,.string u.data],.agg #[.int .i64 p.dir,.string p.name,.string p.top]] w fun e w'=>
   e=.returned (.tuple #[(Y.readyF u p).2.1.v,.int .i64 (Y.readyF u p).2.2])∧Goes w w' pf pw R pv (Y.readyF u p).1:=by
 obtain⟨hUX,hPX,hRX,hbX⟩:=boxes3 w #[.int .i64 u.u,.int .i64 u.g,.string u.data] #[.int .i64 p.dir,.string p.name,.string p.top] #[.string ⟨#[]⟩,.int .i64 0,.int .i64 0,.int .i64 0,.int .i64 0,.int .i64 0,.string ⟨#[]⟩] 27 131 38;have hD:=fun w1 (hb1:Below w.heap.size w w1)=>ldir_any (h.keep hb1) hk (by omega) u p.dir p.name hn;have HH:=Lib.hid (fun w1 (hb1:Below w.heap.size w w1)=>h.keep hb1);have HR:=Lib.hid (show Y.readyF u p=if (Y.dirF u p.dir p.name).2.2≠0 then ((Y.dirF u p.dir p.name).1,cn0,(Y.dirF u p.dir p.name).2.2) else if ((Y.dirF u p.dir p.name).1.dirsF u (Y.dirF u p.dir p.name).2.1 partNs).2≠0 then (((Y.dirF u p.dir p.name).1.dirsF u (Y.dirF u p.dir p.name).2.1 partNs).1,cn0,((Y.dirF u p.dir p.name).1.dirsF u (Y.dirF u p.dir p.name).2.1 partNs).2) else (((Y.dirF u p.dir p.name).1.dirsF u (Y.dirF u p.dir p.name).2.1 partNs).1,((Y.dirF u p.dir p.name).1.dirsF u (Y.dirF u p.dir p.name).2.1 partNs).1.fs.openF ((Y.dirF u p.dir p.name).1.dirsF u (Y.dirF u p.dir p.name).2.1 partNs).1.dead u p) from rfl);have HK1:=Lib.hid (hk.dirF u p.dir p.name);have HP3:=Lib.hid (part_at);generalize Y.readyF u p=rd at HR ⊢;generalize Y.dirF u p.dir p.name=r at HR HK1 hD;obtain⟨Y1,no,e1⟩:=r;dsimp only at HR HK1 hD;have HD:=Lib.hid hD;clear h hk hD;go_enter Tryz.func56,Tryz.ntmps56;go_upto_region 1 with fail;generalize ((w.alloc (.cells #[.int .i64 u.u,.int .i64 u.g,.string u.data] 27)).alloc (.cells #[.int .i64 p.dir,.string p.name,.string p.top] 131)).alloc (.cells #[.string ⟨#[]⟩,.int .i64 0,.int .i64 0,.int .i64 0,.int .i64 0,.int .i64 0,.string ⟨#[]⟩] 38)=W0 at hUX hPX hRX hbX ⊢;have HB0:=Lib.hid hbX;have HW0:=Lib.hid (And.intro hUX (And.intro hPX hRX));obtain⟨uc,uf,uz⟩:=hUX.facts;obtain⟨qc,qf,qz⟩:=hPX.facts;clear hUX hPX hRX hbX;go_wp2_with fail;refine (HD.out _ HB0.out).mono ?_;rintro e w1 ⟨rfl,R1,hY1,hS1⟩;have hy0:=HH.out _ HB0.out;have hU1:=HW0.out.1.sy hy0 hS1 (by decide) (by decide);have hP1:=HW0.out.2.1.sy hy0 hS1 (by decide) (by decide);have hR1:=HW0.out.2.2.sy hy0 hS1 (by decide) (by decide);have HG1:=Lib.hid (show Goes w w1 pf pw R pv Y1 from ⟨R1,hY1,(Stp.of_below HB0.out).trans hS1⟩);have HB1:=Lib.hid (And.intro hU1 (And.intro hP1 hR1));obtain⟨rc,rf,rz⟩:=hR1.facts;clear hy0 hY1 hS1 hU1 hP1 hR1 uc uf uz qc qf qz;by_cases h0:e1=0
 ·have h0b:(e1 != 0)=false:=by simpa using h0
  have HE:=Lib.hid (HR.out.trans (if_neg (by simpa using h0)));subst h0;clear rc rf rz;go_wp2_with fail
  go_loopw [29] (fun t29 wr=>∃ (k:Nat) (Z:Sy),k≤4∧t29=.int .i64 k∧Y1.dirsF u no partNs=Z.dirsF u no (partNs.drop k)∧SyOk Z (N+1+k)∧Goes w wr pf pw R pv Z∧Blk wr w.heap.size #[.int .i64 u.u,.int .i64 u.g,.string u.data] 27∧Blk wr (w.heap.size+1) #[.int .i64 p.dir,.string p.name,.string p.top] 131∧Blk wr (w.heap.size+1+1) #[.string ⟨#[]⟩,.int .i64 0,.int .i64 0,.int .i64 0,.int .i64 0,.int .i64 0,.string ⟨#[]⟩] 38) (fun t29 _=>4 - (intOf t29).toNat)
  case atStart=>exact ⟨0,Y1,by omega,rfl,rfl,HK1.out,HG1.out,HB1.out.1,HB1.out.2.1,HB1.out.2.2⟩
  case round=>
   obtain⟨k,Z,hk,rfl,hd,hok,hg,hu,hp,hr⟩:=hrel;obtain⟨Rk,hYk,hSk⟩:=hg;have HU:=Lib.hid (And.intro hYk (And.intro hSk (And.intro hu (And.intro hp hr))));by_cases hlt:k<4
   ·obtain ⟨s,hs1,hs2,hix⟩:=HP3.out k hlt;have HDk:=Lib.hid (ldir_any hYk hok (by omega) u no s hs2);have HOK2:=Lib.hid (hok.dirF u no s);have HDr:=Lib.hid (show Y1.dirsF u no partNs=if (Z.dirF u no s).2.2≠0 then ((Z.dirF u no s).1,(Z.dirF u no s).2.2) else (Z.dirF u no s).1.dirsF u no (partNs.drop (k+1)) by rw [hd,hs1];rfl);generalize Z.dirF u no s=r at HDk HOK2 HDr;obtain⟨Z2,n2,e2⟩:=r;dsimp only at HDk HOK2 HDr;obtain⟨uc,uf,uz⟩:=hu.facts;clear hYk hSk hu hp hr hd hok hs1;go_wp2_with fail;refine HDk.out.mono ?_;rintro e w2 ⟨rfl,R2,hY2,hS2⟩;obtain⟨hYk,hSk,hu,hp,hr⟩:=HU.out;have hu2:=hu.sy hYk hS2 (by decide) (by decide);have hp2:=hp.sy hYk hS2 (by decide) (by decide);have hr2:=hr.sy hYk hS2 (by decide) (by decide);have HG2:=Lib.hid (show Goes w w2 pf pw R pv Z2 from ⟨R2,hY2,hSk.trans hS2⟩);have HB2:=Lib.hid (And.intro hu2 (And.intro hp2 hr2));obtain⟨rc,rf,rz⟩:=hr2.facts;clear hYk hSk hu hp hr hu2 hp2 hr2 hY2 hS2 uc uf uz hix;by_cases h2:e2=0
    ·have h2b:(e2 != 0)=false:=by simpa using h2
     have HD2:=Lib.hid (HDr.out.trans (if_neg (by simpa using h2)));subst h2;clear rc rf rz;go_wp2_with fail;go_roundw
     case measure=>simp [intOf];omega
     case rel=>exact ⟨k+1,Z2,by omega,by go_num,HD2.out,HOK2.out,HG2.out,HB2.out.1,HB2.out.2.1,HB2.out.2.2⟩
    ·have h2b:(e2 != 0)=true:=by simpa using h2
     have HD2:=Lib.hid (HDr.out.trans (if_pos h2));have HE2:=Lib.hid (HE.out.trans (if_pos (by rw [HD2.out];exact h2)));clear h2;go_wp2_with (exact bodyPost_ret (lready_results (x:=cn0) (e:=e2) HB2.out.2.2.set7 rfl rfl) rfl ⟨by rw [HE2.out,HD2.out],by rw [HE2.out,HD2.out];exact HG2.out.set7 HB2.out.2.2 (by omega) _ _ _ _ _ _ _⟩)
   ·obtain rfl:k=4:=by omega
    have hd4:Y1.dirsF u no partNs=(Z,0):=hd;have HE3:=Lib.hid (show rd=(Z,Z.fs.openF Z.dead u p) by rw [HE.out,hd4];rfl);have hlen:Z.fs.ns.length≤100000:=by
     have h1:=hok.fine.pl.len;have h2:=hok.fine.ok.lN;omega
    have HOp:=Lib.hid (copen_any hYk hok.fine.ok (by omega) hok.fine.pl hlen u p);unfold Cn.v at HOp;generalize Z.fs.openF Z.dead u p=o at HOp HE3;obtain⟨x,e3⟩:=o;dsimp only at HOp;obtain⟨uc,uf,uz⟩:=hu.facts;obtain⟨qc,qf,qz⟩:=hp.facts;clear hYk hSk hu hp hr hd hok hd4 hlen;go_wp2_with fail;refine HOp.out.mono ?_;rintro e w2 ⟨rfl,hb2⟩;obtain⟨hYk,hSk,hu,hp,hr⟩:=HU.out;have hr2:=hr.keep hb2;have HG2:=Lib.hid (show Goes w w2 pf pw R pv Z from ⟨Rk,hYk.keep hb2,hSk.trans (Stp.of_below hb2)⟩);have HB2:=Lib.hid hr2;obtain⟨rc,rf,rz⟩:=hr2.facts;clear hYk hSk hu hp hr hr2 hb2 uc uf uz qc qf qz;go_wp2_with (exact bodyPost_ret (lready_results (x:=x) (e:=e3) HB2.out.set7 rfl rfl) rfl ⟨by rw [HE3.out],by rw [HE3.out];exact HG2.out.set7 HB2.out (by omega) _ _ _ _ _ _ _⟩)
 ·have h0b:(e1 != 0)=true:=by simpa using h0
  have HE:=Lib.hid (HR.out.trans (if_pos h0));clear h0;go_wp2_with (exact bodyPost_ret (lready_results (x:=cn0) (e:=e1) HB1.out.2.2.set7 rfl rfl) rfl ⟨by rw [HE.out],by rw [HE.out];exact HG1.out.set7 HB1.out.2.2 (by omega) _ _ _ _ _ _ _⟩)
end
end
section
open Go.RowKit
section
variable {w w':World} {B pf:Nat} {R:Rf} {Y Z:Sy}
theorem Blk.ry {b:Nat} {vs:Array Value} {T:TypeId} (hb:Blk w b vs T) (h:RyAt w B pf R Y) {F':Nat→Prop} (hs:Stp (R.F pf) F' w w') (hT:rfKind (.cells #[] T (0,0))=false):Blk w' b vs T:=
 hb.mod hs.mod (fun hk=>by
  obtain⟨o,ho,hd⟩:=h.r.kind hk;unfold Blk at hb;rw [hb] at ho;injection ho with ho;subst ho;exact absurd hd (by rw [show rfKind (.cells vs T (0,0))=rfKind (.cells #[] T (0,0)) from rfl,hT];decide))
theorem RyAt.other (h:RyAt w B pf R Y) {b:Nat} {vs:Array Value} {T:TypeId} (hb:Blk w b vs T) (hB:B≤b) (hT:rfKind (.cells #[] T (0,0))=false) (h2:T≠146) (hm:Mod (fun k=>k=b) w w'):RyAt w' B pf R Y:=
 h.to (h.r.mod hm (fun k o hk ho=>by
  subst hk;unfold Blk at hb;rw [hb] at ho;injection ho with ho;subst ho;exact⟨by rw [show rfKind (.cells vs T (0,0))=rfKind (.cells #[] T (0,0)) from rfl,hT],fun cur e=>by injection e with _ e;exact h2 e⟩)) (hm.below (fun k hk=>by omega) h.size) h.low rfl rfl h.now h.cnt h.dd rfl
theorem GoesR.set7 (h:GoesR w w' B pf R Z) (hBw:B≤w.heap.size) {b:Nat} {vs:Array Value} (hB:Blk w' b vs 38) (hw:w.heap.size≤b) (v0 v1 v2 v3 v4 v5 v6:Value) :
  GoesR w (((((((w'.setCell ⟨b,0,none⟩ v0).setCell ⟨b,1,none⟩ v1).setCell ⟨b,2,none⟩ v2).setCell ⟨b,3,none⟩ v3).setCell ⟨b,4,none⟩ v4).setCell ⟨b,5,none⟩ v5).setCell ⟨b,6,none⟩ v6) B pf R Z:=by
 obtain⟨R',h1,h2⟩:=h;have hm:Mod (fun k=>k=b) w' (((((((w'.setCell ⟨b,0,none⟩ v0).setCell ⟨b,1,none⟩ v1).setCell ⟨b,2,none⟩ v2).setCell ⟨b,3,none⟩ v3).setCell ⟨b,4,none⟩ v4).setCell ⟨b,5,none⟩ v5).setCell ⟨b,6,none⟩ v6):=
  (((((((Mod.refl (fun k=>k=b) w').setCell (a:=⟨b,0,none⟩) (.inl rfl) v0).setCell (a:=⟨b,1,none⟩) (.inl rfl) v1).setCell (a:=⟨b,2,none⟩) (.inl rfl) v2).setCell (a:=⟨b,3,none⟩) (.inl rfl) v3).setCell (a:=⟨b,4,none⟩) (.inl rfl) v4).setCell (a:=⟨b,5,none⟩) (.inl rfl) v5).setCell (a:=⟨b,6,none⟩) (.inl rfl) v6
 exact⟨R',h1.other hB (by omega) (by decide) (by decide) hm,((((((h2.newCell hw 0 v0).newCell hw 1 v1).newCell hw 2 v2).newCell hw 3 v3).newCell hw 4 v4).newCell hw 5 v5).newCell hw 6 v6⟩
theorem rready_results {tmps:Array Value} {W:World} {B:Nat} {x:Cn} {e:Int} (hb:Blk W B #[.string x.path,.int .i64 x.dir,.int .i64 x.info,.int .i64 x.files,.int .i64 x.out,.int .i64 x.way,.string x.top] 38)
  (h8:tmps.getD 6 undef=.pointer (some ⟨B,0,none⟩)) (h9:tmps.getD 7 undef=.int .i64 e):(results Tryz.f69 tmps).run Tryz.prog W=.ok (.tuple #[x.v,.int .i64 e]) W:=by
 have q0:=hb.cell 0;have q1:=hb.cell 1;have q2:=hb.cell 2;have q3:=hb.cell 3;have q4:=hb.cell 4;have q5:=hb.cell 5;have q6:=hb.cell 6;rw [Array.getD_eq_getD_getElem?] at h8 h9;simp [results,Tryz.results69,go_sem,Cn.v,h8,h9,q0,q1,q2,q3,q4,q5,q6]
end
end
end Go.Proofs.YtihdbncoijhihaaGreat
