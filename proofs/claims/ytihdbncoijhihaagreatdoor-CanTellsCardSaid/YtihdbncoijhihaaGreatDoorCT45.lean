import Derived.Test.YtihdbncoijhihaaGreatDoorCT44
import Derived.Test.YtihdbncoijhihaaGreatDoorCT39
import Derived.Test.YtihdbncoijhihaaGreatDoorCT37
import Derived.Test.YtihdbncoijhihaaGreatDoorCT40
import Derived.Test.YtihdbncoijhihaaGreatDoorCT33
import Derived.Test.YtihdbncoijhihaaGreatDoorCT35
import Derived.Test.YtihdbncoijhihaaGreatDoorCT10
import Derived.Test.YtihdbncoijhihaaGreatDoorCT8
import Derived.Test.YtihdbncoijhihaaGreatDoorCT21
set_option linter.unusedVariables false
set_option linter.unusedSimpArgs false
namespace Go.Proofs.YtihdbncoijhihaaGreatDoor
open Go.RowKit
section
variable {w w' : World} {pf : Nat} {R : Rf} {S : Fs}
set_option maxRecDepth 100000 in
set_option maxHeartbeats 4000000 in
theorem rdata_any (h : RfAt w pf R S) {N : Nat} (hk : FsOk S N) (hd : R.dd=.bool false) (u : Us) (ht : u.data.size≤100000) :
  Calls Tryz.prog 27 #[.pointer (some ⟨pf,0,none⟩),.agg #[.int .i64 u.u,.int .i64 u.g,.string u.data]] w fun e w'=>e=.returned (.tuple #[.int .i64 (S.dataF false u).1,.int .i64 (S.dataF false u).2])∧Below w.heap.size w w':=by
 have hX:=Blk.new w #[.int .i64 u.u,.int .i64 u.g,.string u.data] 70
 have hbX:=balloc (Below.refl w.heap.size w) (.cells #[.int .i64 u.u,.int .i64 u.g,.string u.data] 70)
 have HC:=Lib.hid (rcred_any u.u u.g u.data)
 have HF:=Lib.hid (fun w1 (hb : Below w.heap.size w w1)=>rfind21_any (h.keep hb) hk hd u.c u.data ht true)
 have HG:=Lib.hid (fun w1 (hb1 : Below w.heap.size w w1) k=>rgetZ_fix (h.keep hb1) k)
 have HR:=Lib.hid (show S.dataF false u=if (S.path u.c u.data true).2≠0 then (0,(S.path u.c u.data true).2) else if (S.path u.c u.data true).1.no=0 then (0,5) else if (S.getZ (S.path u.c u.data true).1.no).kind≠1 then (0,9) else ((S.path u.c u.data true).1.no,0) by unfold Fs.dataF;rw [if_neg (by decide)])
 generalize S.dataF false u=rd at HR ⊢
 generalize S.path u.c u.data true=x at HR HF
 obtain⟨⟨x1,x2,x3,x4⟩,x5⟩:=x
 unfold Fd.v Us.c at HF
 dsimp only at HR HF
 clear h hk hd
 go_enter Tryz.func27,Tryz.ntmps27
 go_upto_region 1 with fail
 generalize w.alloc (.cells #[.int .i64 u.u,.int .i64 u.g,.string u.data] 70)=W0 at hX hbX ⊢
 have HBX:=Lib.hid hbX
 obtain⟨xc,xf,xz⟩:=hX.facts
 clear hX
 go_cut [6,7] (fun t6 t7 wx=>∃ Bd : Nat,t6=.pointer (some ⟨Bd,0,none⟩)∧t7=.int .i64 x5∧Blk wx Bd #[.int .i64 x1,.string x2,.int .i64 x3,.bool x4] 58∧Below w.heap.size w wx)
 case first=>
  go_wp2_with fail
  have hzz : W0.heap.size≤W0.heap.size:=Nat.le_refl _
  go_region_held3 (fun w'=>(∀ b o,b < W0.heap.size→w'.cell? ⟨b,o,none⟩=W0.cell? ⟨b,o,none⟩)∧Below W0.heap.size W0 w') (first | with_reducible assumption | with_reducible exact keepS_here _ | with_reducible exact keepS_here2 _ | with_reducible exact keepS_call (by assumption) (by assumption) | with_reducible exact keepS_alloc (by assumption) _ | with_reducible exact keepS_allocD (by assumption) _ | with_reducible exact keepS_realloc (by assumption) (by assumption) | with_reducible exact keepS_set4 (by assumption) (by assumption))
   ((first
    | (go_at_call 49;((with_reducible refine (HC.out _).mono ?_);rintro e w4 ⟨rfl,hb4⟩;have hz4:=Nat.le_trans (And.right ‹(∀ b o,b < W0.heap.size→_)∧Below W0.heap.size W0 _›).size hb4.size;try (have hbq:=new_drew hb4;obtain ⟨bqc,bqf,bqz⟩:=hbq.facts)))
    | (go_at_call 90;((with_reducible refine (HF.out _ (HBX.out.trans ((And.right ‹(∀ b o,b < W0.heap.size→_)∧Below W0.heap.size W0 _›).mono HBX.out.size))).mono ?_);rintro e w5 ⟨rfl,hb5⟩;have hz5:=Nat.le_trans (And.right ‹(∀ b o,b < W0.heap.size→_)∧Below W0.heap.size W0 _›).size hb5.size;first | (have hbr:=hbq.keep hb5;obtain ⟨brc,brf,brz⟩:=hbr.facts) | (have hbr:=new_drew hb5;obtain ⟨brc,brf,brz⟩:=hbr.facts) | (have hbr:=new_keep hb5;obtain ⟨brc,brf,brz⟩:=hbr.facts) | skip))))
  all_goals
   obtain⟨-,hS4⟩:=‹_∧Below W0.heap.size W0 _›
   have HS4:=Lib.hid hS4
   try (have HQ4:=Lib.hid hbr)
   clear hS4
   go_wp2_with fail
   go_meet
   exact⟨_,rfl,rfl,by first | exact HQ4.out.set4 | exact Blk.new _ _ _,HBX.out.trans (HS4.out.mono HBX.out.size)⟩
 case rest=>
  obtain⟨Bd,rfl,rfl,hDX,hbY⟩:=hcut
  generalize wc=X at hDX hbY ⊢
  have HBY:=Lib.hid hbY
  have HDX:=Lib.hid hDX
  obtain⟨dc,df,dz⟩:=hDX.facts
  clear hbX hDX hbY xc xf xz
  by_cases h5 : x5=0
  ·subst h5
   have HR1:=Lib.hid (HR.out.trans (if_neg (by decide)))
   by_cases hn : x3=0
   ·have hnb : (x3 == 0)=true:=by simpa using hn
    have HR2:=Lib.hid (HR1.out.trans (if_pos hn))
    clear hn
    go_wp2_with fail
    go_ret2
    rw [HR2.out]
    exact⟨rfl,HBY.out⟩
   ·have hnb : (x3 == 0)=false:=by simpa using hn
    have HR2:=Lib.hid (HR1.out.trans (if_neg hn))
    obtain⟨ea,el,ec,-,hG1⟩:=HG.out _ HBY.out x3
    have HG1:=Lib.hid hG1
    unfold An.v at HG1
    generalize S.getZ x3=a at HR2 HG1
    have hfd : ∀ w,(Instr.field 109 (.agg #[.int .i64 a.no,.int .i64 a.dev,.int .i64 a.kind,.int .i64 a.mode,.int .i64 a.uid,.int .i64 a.gid,.int .i64 a.mtime,.int .i64 a.ctime,.int .i64 a.links,.int .i64 a.up,.string a.data,.slice ea el ec]) 2).run Tryz.prog w=.ok (.int .i64 a.kind) w:=fun _=>by kernel_rfl
    clear hn hG1
    go_wp2_with fail
    refine (HG1.out _ (Below.refl _ _)).mono ?_
    rintro e w6 ⟨rfl,hb6⟩
    have hD6:=HDX.out.keep hb6
    have HBZ:=Lib.hid (bnext HBY.out hb6)
    clear hb6 dc df dz
    obtain⟨dc,df,dz⟩:=hD6.facts
    clear hD6
    by_cases h1 : a.kind=1
    ·have h1' : (a.kind != 1)=false:=by simpa using h1
     have HR3:=Lib.hid (HR2.out.trans (if_neg (by simpa using h1)))
     clear h1
     go_wp2_with fail
     go_ret2
     rw [HR3.out]
     exact⟨rfl,HBZ.out⟩
    ·have h1' : (a.kind != 1)=true:=by simpa using h1
     have HR3:=Lib.hid (HR2.out.trans (if_pos h1))
     clear h1
     go_wp2_with fail
     go_ret2
     rw [HR3.out]
     exact⟨rfl,HBZ.out⟩
  ·have h5' : (x5 != 0)=true:=by simpa using h5
   have HR1:=Lib.hid (HR.out.trans (if_pos h5))
   clear h5
   go_wp2_with fail
   go_ret2
   rw [HR1.out]
   exact⟨rfl,HBY.out⟩
set_option maxRecDepth 100000 in
set_option maxHeartbeats 4000000 in
theorem rcommon_any (h : RfAt w pf R S) {N : Nat} (hk : FsOk S N) (hd : R.dd=.bool false) (u g : Int) (t : ByteArray) (top : Int) :
  Calls Tryz.prog 29 #[.pointer (some ⟨pf,0,none⟩),.agg #[.int .i64 u,.int .i64 g,.string t],.int .i64 top] w fun e w'=>e=.returned (.tuple #[.int .i64 (S.commonF false ⟨u,g⟩ top).1,.int .i64 (S.commonF false ⟨u,g⟩ top).2])∧Below w.heap.size w w':=by
 have hX:=Blk.new w #[.int .i64 u,.int .i64 g,.string t] 70
 have hbX:=balloc (Below.refl w.heap.size w) (.cells #[.int .i64 u,.int .i64 g,.string t] 70)
 have HC:=Lib.hid (rcred_any u g t)
 have HL:=Lib.hid (fun w1 (hb1 : Below w.heap.size w w1)=>rlook_any (h.keep hb1) hk hd ⟨u,g⟩ top nShared)
 have HG:=Lib.hid (fun w1 (hb1 : Below w.heap.size w w1) k=>rgetZ_fix (h.keep hb1) k)
 have HR:=Lib.hid (show S.commonF false ⟨u,g⟩ top=if (S.lookF false ⟨u,g⟩ top nShared).2≠0 then (0,(S.lookF false ⟨u,g⟩ top nShared).2) else comV (S.getZ (S.lookF false ⟨u,g⟩ top nShared).1) (S.getZ top) (S.lookF false ⟨u,g⟩ top nShared).1 from rfl)
 generalize S.commonF false ⟨u,g⟩ top=rd at HR ⊢
 generalize S.lookF false ⟨u,g⟩ top nShared=r at HR HL
 obtain⟨no,e1⟩:=r
 unfold nShared at HL
 dsimp only at HR HL
 clear h hk hd
 go_enter Tryz.func29,Tryz.ntmps29
 go_upto_region 1 with fail
 generalize w.alloc (.cells #[.int .i64 u,.int .i64 g,.string t] 70)=W0 at hX hbX ⊢
 have HBX:=Lib.hid hbX
 obtain⟨xc,xf,xz⟩:=hX.facts
 clear hX hbX
 go_wp2_with fail
 refine (HC.out _).mono ?_
 rintro e w1 ⟨rfl,hb1⟩
 have HB1:=Lib.hid (bnext HBX.out hb1)
 clear hb1 xc xf xz
 go_wp2_with fail
 refine (HL.out _ HB1.out).mono ?_
 rintro e w2 ⟨rfl,hb2⟩
 have HB2:=Lib.hid (bnext HB1.out hb2)
 clear hb2
 by_cases h0 : e1=0
 ·subst h0
  have HE:=Lib.hid (HR.out.trans (if_neg (by decide)))
  obtain⟨ea,el,ec,-,hG1⟩:=HG.out _ HB2.out no
  have HG1:=Lib.hid hG1
  unfold An.v at HG1
  generalize S.getZ no=x at HE HG1
  clear hG1
  go_wp2_with fail
  refine (HG1.out _ (Below.refl _ _)).mono ?_
  rintro e w3 ⟨rfl,hb3⟩
  have hb4:=balloc (bnext HB2.out hb3) (.cells #[.int .i64 x.no,.int .i64 x.dev,.int .i64 x.kind,.int .i64 x.mode,.int .i64 x.uid,.int .i64 x.gid,.int .i64 x.mtime,.int .i64 x.ctime,.int .i64 x.links,.int .i64 x.up,.string x.data,.slice ea el ec] 109)
  have hN4:=Blk.new w3 #[.int .i64 x.no,.int .i64 x.dev,.int .i64 x.kind,.int .i64 x.mode,.int .i64 x.uid,.int .i64 x.gid,.int .i64 x.mtime,.int .i64 x.ctime,.int .i64 x.links,.int .i64 x.up,.string x.data,.slice ea el ec] 109
  clear hb3
  go_upto_region 5 with fail
  generalize w3.alloc (.cells #[.int .i64 x.no,.int .i64 x.dev,.int .i64 x.kind,.int .i64 x.mode,.int .i64 x.uid,.int .i64 x.gid,.int .i64 x.mtime,.int .i64 x.ctime,.int .i64 x.links,.int .i64 x.up,.string x.data,.slice ea el ec] 109)=W4 at hb4 hN4 ⊢
  have HB4:=Lib.hid hb4
  have HN4:=Lib.hid hN4
  obtain⟨fa,fl,fc,-,hG2⟩:=HG.out _ HB4.out top
  have HG2:=Lib.hid hG2
  unfold An.v at HG2
  generalize S.getZ top=y at HE HG2
  obtain⟨nc,nf',nz⟩:=hN4.facts
  clear hb4 hN4 hG2
  have hfd : ∀ w,(Instr.field 109 (.agg #[.int .i64 y.no,.int .i64 y.dev,.int .i64 y.kind,.int .i64 y.mode,.int .i64 y.uid,.int .i64 y.gid,.int .i64 y.mtime,.int .i64 y.ctime,.int .i64 y.links,.int .i64 y.up,.string y.data,.slice fa fl fc]) 1).run Tryz.prog w=.ok (.int .i64 y.dev) w:=fun _=>by kernel_rfl
  unfold comV at HE
  by_cases h1 : x.kind=1
  ·have h1' : (x.kind != 1)=false:=by simpa using h1
   have HE1:=Lib.hid (HE.out.trans (if_neg (by simpa using h1)))
   go_wp2_with fail
   go_region_held3 (fun w'=>(∀ b o,b < W4.heap.size→w'.cell? ⟨b,o,none⟩=W4.cell? ⟨b,o,none⟩)∧Below W4.heap.size W4 w') (first | with_reducible assumption | with_reducible exact keepS_here _ | with_reducible exact keepS_here2 _ | with_reducible exact keepS_call (by assumption) (by assumption) | with_reducible exact keepS_alloc (by assumption) _ | with_reducible exact keepS_allocD (by assumption) _ | with_reducible exact keepS_realloc (by assumption) (by assumption) | with_reducible exact keepS_set4 (by assumption) (by assumption))
    ((first
     | (go_at_call 46;((with_reducible refine (HG2.out _ (And.right (by assumption))).mono ?_);rintro e w5 ⟨rfl,hb5⟩))))
   all_goals
    have hbz : Below W4.heap.size W4 w5:=And.right (by assumption)
    have HB6:=Lib.hid (bnext HB4.out hbz)
    have hN5:=HN4.out.keep hbz
    clear hbz nc nf' nz
    obtain⟨nc,nf',nz⟩:=hN5.facts
    clear hN5
    by_cases h2 : x.dev=y.dev
    ·have h2' : (x.dev != y.dev)=false:=by simpa using h2
     have HE2:=Lib.hid (HE1.out.trans (if_neg (by simpa using h2)))
     by_cases h3 : x.mode < 512
     ·have HE3:=Lib.hid (HE2.out.trans (if_pos h3))
      clear h1 h2
      go_wp2_with fail
      go_ret2
      rw [HE3.out]
      exact⟨rfl,HB6.out⟩
     ·have HE3:=Lib.hid (HE2.out.trans (if_neg h3))
      have h3' : (512 : Int)≤x.mode:=by omega
      clear h1 h2
      go_wp2_with fail
      go_ret2
      rw [HE3.out]
      exact⟨rfl,HB6.out⟩
    ·have h2' : (x.dev != y.dev)=true:=by simpa using h2
     have HE2:=Lib.hid (HE1.out.trans (if_pos h2))
     clear h1 h2
     go_wp2_with fail
     go_ret2
     rw [HE2.out]
     exact⟨rfl,HB6.out⟩
  ·have h1' : (x.kind != 1)=true:=by simpa using h1
   have HE2:=Lib.hid (HE.out.trans (if_pos h1))
   clear h1
   go_wp2_with fail
   go_ret2
   rw [HE2.out]
   exact⟨rfl,HB4.out⟩
 ·have h0' : (e1 != 0)=true:=by simpa using h0
  have HE:=Lib.hid (HR.out.trans (if_pos h0))
  clear h0
  go_wp2_with fail
  go_ret2
  rw [HE.out]
  exact⟨rfl,HB2.out⟩
theorem rplace_info : (Tryz.prog.info? 100).map (fun i=>(i.zero,i.size,i.bytes))=some (some (.agg #[.int .i64 0,.string ByteArray.empty,.string ByteArray.empty]),3,40):=by kernel_rfl
set_option maxRecDepth 100000 in
set_option maxHeartbeats 4000000 in
theorem rplaces_any (h : RfAt w pf R S) {N : Nat} (hk : FsOk S N) (hd : R.dd=.bool false) (u : Us) (hu0 : -9223372036854775808≤u.u) (hu1 : u.u≤9223372036854775807) (top : Int) (path : ByteArray) :
  Calls Tryz.prog 36 #[.pointer (some ⟨pf,0,none⟩),.agg #[.int .i64 u.u,.int .i64 u.g,.string u.data],.int .i64 top,.string path] w fun e w'=>∃ v,e=.returned v∧OPl 100 w' w.heap.size v (S.placesF false u top path)∧Below w.heap.size w w':=by
 have hX:=Blk.new w #[.int .i64 u.u,.int .i64 u.g,.string u.data] 70
 have hbX:=balloc (Below.refl w.heap.size w) (.cells #[.int .i64 u.u,.int .i64 u.g,.string u.data] 70)
 have HD:=Lib.hid (fun w=>rdec_any u.u w hu0 hu1)
 have HC:=Lib.hid (fun w1 (hb1 : Below w.heap.size w w1)=>rcommon_any (h.keep hb1) hk hd u.u u.g u.data top)
 have HR:=Lib.hid (show S.placesF false u top path=(if (S.commonF false ⟨u.u,u.g⟩ top).2=0 then [⟨(S.commonF false ⟨u.u,u.g⟩ top).1,str (decL u.u),path⟩] else []) ++ [⟨top,ByteArray.mk #[46,84,114,97,115,104,45] ++ str (decL u.u),path⟩] from rfl)
 generalize S.placesF false u top path=rd at HR ⊢
 generalize S.commonF false ⟨u.u,u.g⟩ top=r at HR HC
 have hid : (str (decL u.u)).size≤21:=by
  rw [str_size]
  exact (decL_len u.u hu0 hu1).1
 generalize str (decL u.u)=id at HR HD hid
 obtain⟨no,e1⟩:=r
 dsimp only at HR HC
 clear h hk hd
 go_enter Tryz.func36,Tryz.ntmps36
 go_upto_region 1 with fail
 generalize w.alloc (.cells #[.int .i64 u.u,.int .i64 u.g,.string u.data] 70)=W0 at hX hbX ⊢
 have HX:=Lib.hid hX
 have HBX:=Lib.hid hbX
 obtain⟨xc,xf,xz⟩:=hX.facts
 clear hX hbX
 go_wp2_with fail
 refine (HD.out _).mono ?_
 rintro e w1 ⟨rfl,hb1⟩
 have HB1:=Lib.hid (bnext HBX.out hb1)
 have hX1:=HX.out.keep hb1
 clear hb1 xc xf xz
 obtain⟨xc,xf,xz⟩:=hX1.facts
 clear hX1
 go_wp2_with fail
 refine (HC.out _ HB1.out).mono ?_
 rintro e w2 ⟨rfl,hb2⟩
 have hB2:=bnext HB1.out hb2
 have HB2:=Lib.hid hB2
 clear hb2 xc xf xz
 by_cases h0 : e1=0
 ·subst h0
  obtain⟨g1,c1,W1,r1,o1,b1⟩:=(OPl.nil 100 w2 w.heap.size).app (SE:=90) Tryz.underlying90 rplace_info ⟨no,id,path⟩ (by simp) hB2.size
  obtain⟨g2,c2,W2,r2,o2,b2⟩:=o1.app (SE:=90) Tryz.underlying90 rplace_info ⟨top,ByteArray.mk #[46,84,114,97,115,104,45] ++ id,path⟩ (by simp) (Nat.le_trans hB2.size b1.size)
  have HR1:=Lib.hid r1
  have HR2:=Lib.hid r2
  have HO:=Lib.hid (And.intro o2 (And.intro b1 b2))
  have HE:=Lib.hid (show rd=[⟨no,id,path⟩] ++ [⟨top,ByteArray.mk #[46,84,114,97,115,104,45] ++ id,path⟩] by rw [HR.out];rfl)
  clear r1 r2 o1 o2 b1 b2 hB2
  go_wp2_with (at_builtin;refine wpList_app_run rfl rfl rfl rfl (by first | exact HR1.out | exact HR2.out) ?_)
  go_ret
  rw [HE.out]
  exact⟨_,rfl,HO.out.1,HB2.out.trans (HO.out.2.1.trans HO.out.2.2)⟩
 ·have h0' : (e1 == 0)=false:=by simpa using h0
  obtain⟨g2,c2,W2,r2,o2,b2⟩:=(OPl.nil 100 w2 w.heap.size).app (SE:=90) Tryz.underlying90 rplace_info ⟨top,ByteArray.mk #[46,84,114,97,115,104,45] ++ id,path⟩ (by simp) hB2.size
  have HR2:=Lib.hid r2
  have HO:=Lib.hid (And.intro o2 b2)
  have HE:=Lib.hid (show rd=[] ++ [⟨top,ByteArray.mk #[46,84,114,97,115,104,45] ++ id,path⟩] by rw [HR.out,if_neg h0])
  clear r2 o2 b2 hB2 h0
  go_wp2_with (at_builtin;refine wpList_app_run rfl rfl rfl rfl HR2.out ?_)
  go_ret
  rw [HE.out]
  exact⟨_,rfl,HO.out.1,HB2.out.trans HO.out.2⟩
end
end Go.Proofs.YtihdbncoijhihaaGreatDoor
namespace Go.Proofs.YtihdbncoijhihaaGreatDoor
open Go.RowKit
set_option maxRecDepth 100000 in
set_option maxHeartbeats 1000000 in
theorem ropen30_results {tmps : Array Value} {W : World} {B : Nat} {x : Cn} {e : Int} (hb : Blk W B #[.string x.path,.int .i64 x.dir,.int .i64 x.info,.int .i64 x.files,.int .i64 x.out,.int .i64 x.way,.string x.top] 93)
  (h8 : tmps.getD 6 undef=.pointer (some ⟨B,0,none⟩)) (h9 : tmps.getD 7 undef=.int .i64 e) : (results Tryz.f38 tmps).run Tryz.prog W=.ok (.tuple #[x.v,.int .i64 e]) W:=by
 have q0:=hb.cell 0
 have q1:=hb.cell 1
 have q2:=hb.cell 2
 have q3:=hb.cell 3
 have q4:=hb.cell 4
 have q5:=hb.cell 5
 have q6:=hb.cell 6
 rw [Array.getD_eq_getD_getElem?] at h8 h9
 simp [results,Tryz.results38,go_sem,Cn.v,h8,h9,q0,q1,q2,q3,q4,q5,q6]
section
variable {w w' : World} {pf : Nat} {R : Rf} {S : Fs}
set_option maxRecDepth 100000 in
set_option maxHeartbeats 8000000 in
theorem ropen30_any (h : RfAt w pf R S) {N : Nat} (hk : FsOk S N) (hp : Pl S) (hl : S.ns.length≤100000) {d : Bool} (hd : R.dd=.bool d) (u : Us) (p : Plc) :
  Calls Tryz.prog 38 #[.pointer (some ⟨pf,0,none⟩),.agg #[.int .i64 u.u,.int .i64 u.g,.string u.data],.agg #[.int .i64 p.dir,.string p.name,.string p.top]] w fun e w'=>e=.returned (.tuple #[(S.openF d u p).1.v,.int .i64 (S.openF d u p).2])∧Below w.heap.size w w':=by
 have HO:=Lib.hid (fun w1 (hb1 : Below w.heap.size w w1) dir n=>rown_any (h.keep hb1) hk hd u.u u.g u.data dir n)
 have HT:=Lib.hid (fun w1 (hb1 : Below w.heap.size w w1) dir n=>rthere_any (h.keep hb1) hk hd u.u u.g u.data dir n)
 have HWh:=Lib.hid (fun w1 (hb1 : Below w.heap.size w w1) no=>rwhere_any (h.keep hb1) hk hp hl no)
 have HE0:=Lib.hid (show S.openF d u p=if (thereV (S.ownF d ⟨u.u,u.g⟩ p.dir p.name)).2≠0 then (cn0,(thereV (S.ownF d ⟨u.u,u.g⟩ p.dir p.name)).2) else S.openK4 d ⟨u.u,u.g⟩ (thereV (S.ownF d ⟨u.u,u.g⟩ p.dir p.name)).1 p.top from rfl)
 generalize S.openF d u p=rd at HE0 ⊢
 have hUX:=((Blk.new w #[.int .i64 u.u,.int .i64 u.g,.string u.data] 70).old (.cells #[.int .i64 p.dir,.string p.name,.string p.top] 100)).old (.cells #[.string ⟨#[]⟩,.int .i64 0,.int .i64 0,.int .i64 0,.int .i64 0,.int .i64 0,.string ⟨#[]⟩] 93)
 have hPX : Blk (((w.alloc (.cells #[.int .i64 u.u,.int .i64 u.g,.string u.data] 70)).alloc (.cells #[.int .i64 p.dir,.string p.name,.string p.top] 100)).alloc (.cells #[.string ⟨#[]⟩,.int .i64 0,.int .i64 0,.int .i64 0,.int .i64 0,.int .i64 0,.string ⟨#[]⟩] 93)) (w.heap.size + 1) #[.int .i64 p.dir,.string p.name,.string p.top] 100:=by
  have:=(Blk.new (w.alloc (.cells #[.int .i64 u.u,.int .i64 u.g,.string u.data] 70)) #[.int .i64 p.dir,.string p.name,.string p.top] 100).old (.cells #[.string ⟨#[]⟩,.int .i64 0,.int .i64 0,.int .i64 0,.int .i64 0,.int .i64 0,.string ⟨#[]⟩] 93)
  rwa [World.size_alloc] at this
 have hRX : Blk (((w.alloc (.cells #[.int .i64 u.u,.int .i64 u.g,.string u.data] 70)).alloc (.cells #[.int .i64 p.dir,.string p.name,.string p.top] 100)).alloc (.cells #[.string ⟨#[]⟩,.int .i64 0,.int .i64 0,.int .i64 0,.int .i64 0,.int .i64 0,.string ⟨#[]⟩] 93)) (w.heap.size + 1 + 1) #[.string ⟨#[]⟩,.int .i64 0,.int .i64 0,.int .i64 0,.int .i64 0,.int .i64 0,.string ⟨#[]⟩] 93:=by
  have:=Blk.new ((w.alloc (.cells #[.int .i64 u.u,.int .i64 u.g,.string u.data] 70)).alloc (.cells #[.int .i64 p.dir,.string p.name,.string p.top] 100)) #[.string ⟨#[]⟩,.int .i64 0,.int .i64 0,.int .i64 0,.int .i64 0,.int .i64 0,.string ⟨#[]⟩] 93
  rwa [World.size_alloc,World.size_alloc] at this
 have hbX:=balloc (balloc (balloc (Below.refl w.heap.size w) (.cells #[.int .i64 u.u,.int .i64 u.g,.string u.data] 70)) (.cells #[.int .i64 p.dir,.string p.name,.string p.top] 100)) (.cells #[.string ⟨#[]⟩,.int .i64 0,.int .i64 0,.int .i64 0,.int .i64 0,.int .i64 0,.string ⟨#[]⟩] 93)
 clear h hk hp hl hd
 go_enter Tryz.func38,Tryz.ntmps38
 go_upto_region 1 with fail
 generalize ((w.alloc (.cells #[.int .i64 u.u,.int .i64 u.g,.string u.data] 70)).alloc (.cells #[.int .i64 p.dir,.string p.name,.string p.top] 100)).alloc (.cells #[.string ⟨#[]⟩,.int .i64 0,.int .i64 0,.int .i64 0,.int .i64 0,.int .i64 0,.string ⟨#[]⟩] 93)=w0 at hUX hPX hRX hbX ⊢
 have HB0:=Lib.hid hbX
 have HU:=Lib.hid hUX
 have HP:=Lib.hid hPX
 have HR:=Lib.hid hRX
 have hwz:=hbX.size
 obtain⟨uc,uf,uz⟩:=hUX.facts
 obtain⟨qc,qf,qz⟩:=hPX.facts
 clear hUX hPX hRX hbX
 have HC0:=Lib.hid (HT.out _ HB0.out p.dir p.name)
 generalize thereV (S.ownF d ⟨u.u,u.g⟩ p.dir p.name)=r at HC0 HE0
 obtain⟨n0,e0⟩:=r
 dsimp only at HC0 HE0
 go_wp2_with fail
 refine HC0.out.mono ?_
 rintro e w1 ⟨rfl,hb⟩
 have HG1:=Lib.hid ((hb : Below w0.heap.size w0 w1))
 clear hb uc uf uz qc qf qz
 obtain⟨uc,uf,uz⟩:=(HU.out.keep HG1.out).facts
 obtain⟨rc,rf,rz⟩:=(HR.out.keep HG1.out).facts
 by_cases h0 : e0=0
 ·subst h0
  have HE1:=Lib.hid (HE0.out.trans (if_neg (by simp)))
  clear HE0 HC0
  unfold Fs.openK4 at HE1
  have HC1:=Lib.hid (HT.out _ (HB0.out.trans (HG1.out.mono HB0.out.size)) n0 nInfo)
  generalize thereV (S.ownF d ⟨u.u,u.g⟩ n0 nInfo)=r at HC1 HE1
  obtain⟨n1,e1⟩:=r
  dsimp only at HC1 HE1
  unfold nInfo at HC1
  go_wp2_with fail
  refine HC1.out.mono ?_
  rintro e w2 ⟨rfl,hb⟩
  have HG2:=Lib.hid (bnext HG1.out hb)
  clear hb uc uf uz rc rf rz
  obtain⟨uc,uf,uz⟩:=(HU.out.keep HG2.out).facts
  obtain⟨rc,rf,rz⟩:=(HR.out.keep HG2.out).facts
  by_cases h1 : e1=0
  ·subst h1
   have HE2:=Lib.hid (HE1.out.trans (if_neg (by simp)))
   clear HE1 HC1
   unfold Fs.openK3 at HE2
   have HC2:=Lib.hid (HT.out _ (HB0.out.trans (HG2.out.mono HB0.out.size)) n0 nFiles)
   generalize thereV (S.ownF d ⟨u.u,u.g⟩ n0 nFiles)=r at HC2 HE2
   obtain⟨n2,e2⟩:=r
   dsimp only at HC2 HE2
   unfold nFiles at HC2
   go_wp2_with fail
   refine HC2.out.mono ?_
   rintro e w3 ⟨rfl,hb⟩
   have HG3:=Lib.hid (bnext HG2.out hb)
   clear hb uc uf uz rc rf rz
   obtain⟨uc,uf,uz⟩:=(HU.out.keep HG3.out).facts
   obtain⟨rc,rf,rz⟩:=(HR.out.keep HG3.out).facts
   by_cases h2 : e2=0
   ·subst h2
    have HE3:=Lib.hid (HE2.out.trans (if_neg (by simp)))
    clear HE2 HC2
    unfold Fs.openK2 at HE3
    have HC3:=Lib.hid (HO.out _ (HB0.out.trans (HG3.out.mono HB0.out.size)) n0 nOut)
    generalize S.ownF d ⟨u.u,u.g⟩ n0 nOut=r at HC3 HE3
    obtain⟨n3,e3⟩:=r
    dsimp only at HC3 HE3
    unfold nOut at HC3
    go_wp2_with fail
    refine HC3.out.mono ?_
    rintro e w4 ⟨rfl,hb⟩
    have HG4:=Lib.hid (bnext HG3.out hb)
    clear hb uc uf uz rc rf rz
    obtain⟨uc,uf,uz⟩:=(HU.out.keep HG4.out).facts
    obtain⟨rc,rf,rz⟩:=(HR.out.keep HG4.out).facts
    by_cases h3 : e3=0
    ·subst h3
     have HE4:=Lib.hid (HE3.out.trans (if_neg (by simp)))
     clear HE3 HC3
     unfold Fs.openK1 at HE4
     have HC4:=Lib.hid (HO.out _ (HB0.out.trans (HG4.out.mono HB0.out.size)) n0 nWay)
     generalize S.ownF d ⟨u.u,u.g⟩ n0 nWay=r at HC4 HE4
     obtain⟨n4,e4⟩:=r
     dsimp only at HC4 HE4
     unfold nWay at HC4
     go_wp2_with fail
     refine HC4.out.mono ?_
     rintro e w5 ⟨rfl,hb⟩
     have HG5:=Lib.hid (bnext HG4.out hb)
     clear hb uc uf uz rc rf rz
     obtain⟨uc,uf,uz⟩:=(HU.out.keep HG5.out).facts
     obtain⟨rc,rf,rz⟩:=(HR.out.keep HG5.out).facts
     by_cases h4 : e4=0
     ·subst h4
      have HE5:=Lib.hid (HE4.out.trans (if_neg (by simp)))
      unfold Fs.openK0 at HE5
      have HWk:=Lib.hid (HWh.out _ (HB0.out.trans (HG5.out.mono HB0.out.size)) n0)
      unfold whereV at HWk
      cases hpl : S.place_ n0 with
      | none=>
       rw [hpl] at HE5 HWk
       clear hpl
       go_wp2_with fail
       refine HWk.out.mono ?_
       rintro e w6 ⟨rfl,hb⟩
       have HG6:=Lib.hid (bnext HG5.out hb)
       clear hb uc uf uz rc rf rz
       obtain⟨qc,qf,qz⟩:=(HP.out.keep HG6.out).facts
       obtain⟨rc,rf,rz⟩:=(HR.out.keep HG6.out).facts
       go_wp2_with (exact bodyPost_ret (ropen30_results (x:=cn0) (e:=5) (HR.out.keep HG6.out).set7 rfl rfl) rfl ⟨by rw [HE5.out],below_set7 (HB0.out.trans (HG6.out.mono HB0.out.size)) (by omega)⟩)
      | some s=>
       rw [hpl] at HE5 HWk
       clear hpl
       go_wp2_with fail
       refine HWk.out.mono ?_
       rintro e w6 ⟨rfl,hb⟩
       have HG6:=Lib.hid (bnext HG5.out hb)
       clear hb uc uf uz rc rf rz
       obtain⟨qc,qf,qz⟩:=(HP.out.keep HG6.out).facts
       obtain⟨rc,rf,rz⟩:=(HR.out.keep HG6.out).facts
       go_wp2_with (exact bodyPost_ret (ropen30_results (x:=⟨s,n0,n1,n2,n3,n4,p.top⟩) (e:=0) (HR.out.keep HG6.out).set7 rfl rfl) rfl ⟨by rw [HE5.out],below_set7 (HB0.out.trans (HG6.out.mono HB0.out.size)) (by omega)⟩)
     ·have h' : (e4 != 0)=true:=by simpa using h4
      have HF:=Lib.hid (HE4.out.trans (if_pos h4))
      clear h4
      go_wp2_with (exact bodyPost_ret (ropen30_results (x:=cn0) (e:=e4) (HR.out.keep HG5.out).set7 rfl rfl) rfl ⟨by rw [HF.out],below_set7 (HB0.out.trans (HG5.out.mono HB0.out.size)) (by omega)⟩)
    ·have h' : (e3 != 0)=true:=by simpa using h3
     have HF:=Lib.hid (HE3.out.trans (if_pos h3))
     clear h3
     go_wp2_with (exact bodyPost_ret (ropen30_results (x:=cn0) (e:=e3) (HR.out.keep HG4.out).set7 rfl rfl) rfl ⟨by rw [HF.out],below_set7 (HB0.out.trans (HG4.out.mono HB0.out.size)) (by omega)⟩)
   ·have h' : (e2 != 0)=true:=by simpa using h2
    have HF:=Lib.hid (HE2.out.trans (if_pos h2))
    clear h2
    go_wp2_with (exact bodyPost_ret (ropen30_results (x:=cn0) (e:=e2) (HR.out.keep HG3.out).set7 rfl rfl) rfl ⟨by rw [HF.out],below_set7 (HB0.out.trans (HG3.out.mono HB0.out.size)) (by omega)⟩)
  ·have h' : (e1 != 0)=true:=by simpa using h1
   have HF:=Lib.hid (HE1.out.trans (if_pos h1))
   clear h1
   go_wp2_with (exact bodyPost_ret (ropen30_results (x:=cn0) (e:=e1) (HR.out.keep HG2.out).set7 rfl rfl) rfl ⟨by rw [HF.out],below_set7 (HB0.out.trans (HG2.out.mono HB0.out.size)) (by omega)⟩)
 ·have h' : (e0 != 0)=true:=by simpa using h0
  have HF:=Lib.hid (HE0.out.trans (if_pos h0))
  clear h0
  go_wp2_with (exact bodyPost_ret (ropen30_results (x:=cn0) (e:=e0) (HR.out.keep HG1.out).set7 rfl rfl) rfl ⟨by rw [HF.out],below_set7 (HB0.out.trans (HG1.out.mono HB0.out.size)) (by omega)⟩)
set_option maxRecDepth 100000 in
set_option maxHeartbeats 2000000 in
theorem rput_cn (w : World) (base : Nat) (v : Value) (l : List Cn) (x : Cn) (h : OCn w base v l) (hl : l.length≤100000) (hbase : base≤w.heap.size) :
  Calls Tryz.prog 102 #[v,.agg #[.string x.path,.int .i64 x.dir,.int .i64 x.info,.int .i64 x.files,.int .i64 x.out,.int .i64 x.way,.string x.top]] w fun e w'=>∃ v',e=.returned v'∧OCn w' base v' (putCn l x)∧Mod (fun k=>v.ownBlock=some k) w w':=by
 obtain⟨a,c,rfl,hc1,hc2,-⟩:=own_form h
 have hX:=Blk.new w #[.string x.path,.int .i64 x.dir,.int .i64 x.info,.int .i64 x.files,.int .i64 x.out,.int .i64 x.way,.string x.top] 93
 have hbX:=balloc (Below.refl w.heap.size w) (.cells #[.string x.path,.int .i64 x.dir,.int .i64 x.info,.int .i64 x.files,.int .i64 x.out,.int .i64 x.way,.string x.top] 93)
 have HH:=Lib.hid h
 have HS:=Lib.hid (show putCn l x=if (l.drop 0).any (fun y=>y.dir == x.dir)=true then l else l ++ [x] from rfl)
 generalize putCn l x=out at HS ⊢
 clear h
 go_enter Tryz.func102,Tryz.ntmps102
 go_upto_region 1 with fail
 generalize w.alloc (.cells #[.string x.path,.int .i64 x.dir,.int .i64 x.info,.int .i64 x.files,.int .i64 x.out,.int .i64 x.way,.string x.top] 93)=w1 at hX hbX ⊢
 have HX:=Lib.hid hX
 have HB1:=Lib.hid hbX
 clear hX hbX
 go_wp2_with fail
 go_loopw [5] (fun t5 wr=>∃ k : Nat,k≤l.length∧t5=.int .i64 k∧(out=if (l.drop k).any (fun y=>y.dir == x.dir)=true then l else l ++ [x])∧Below w1.heap.size w1 wr) (fun t5 _=>l.length - (intOf t5).toNat)
 case atStart=>exact ⟨0,Nat.zero_le _,rfl,HS.out,Below.refl _ _⟩
 case round=>
  obtain⟨k,hk,rfl,hf,hb⟩:=hrel
  have HB:=Lib.hid hb
  have hX:=HX.out.keep hb
  have HXr:=Lib.hid hX
  have HHr:=Lib.hid (HH.out.keep (HB1.out.trans (hb.mono HB1.out.size)))
  obtain⟨xc,xf,xz⟩:=hX.facts
  clear hX
  by_cases hlt : k < l.length
  ·obtain ⟨b,off,rfl,hbl,-,c1,-,-,-,-,-⟩:=cn_cells HHr.out.at k hlt
   rw [List.drop_eq_getElem_cons hlt,List.any_cons] at hf
   have HF:=Lib.hid hf
   generalize l[k]=y at c1 HF
   clear hf hb
   by_cases hx : y.dir=x.dir
   ·have hq : (y.dir == x.dir)=true:=by simpa using hx
    have HR:=Lib.hid (show out=l by rw [HF.out,hq];rfl)
    clear hx
    go_wp2_with (go_quiet (fail))
    go_ret
    rw [HR.out]
    exact⟨_,rfl,HHr.out.keep (below_drewN (Below.refl _ _) _),Mod.of_below (HB1.out.trans ((HB.out.trans (below_drewN (Below.refl _ _) _)).mono HB1.out.size))⟩
   ·have hq : (y.dir == x.dir)=false:=by simpa using hx
    have HR:=Lib.hid (show out=if (l.drop (k + 1)).any (fun y=>y.dir == x.dir)=true then l else l ++ [x] by rw [HF.out,hq];rfl)
    clear hx
    go_wp2_with (go_quiet (fail))
    go_roundw
    case measure=>simp [intOf];omega
    case rel=>exact ⟨k + 1,by omega,by go_num,HR.out,HB.out.trans (below_drewN (Below.refl _ _) _)⟩
  ·obtain rfl : k=l.length:=by omega
   rw [List.drop_length] at hf
   have HR:=Lib.hid (show out=l ++ [x] from hf)
   obtain⟨g,cap,W,h1,h2,h3⟩:=HHr.out.app x (by omega) (Nat.le_trans hbase (Nat.le_trans HB1.out.size HB.out.size))
   have HA:=Lib.hid h1
   have HZ:=Lib.hid (And.intro h2 h3)
   clear hf hb h1 h2 h3
   go_wp2_with (at_builtin;refine wpList_app_run rfl rfl rfl rfl HA.out ?_)
   go_ret
   rw [HR.out]
   exact⟨_,rfl,HZ.out.1,(Mod.of_below (HB1.out.trans (HB.out.mono HB1.out.size))).trans HZ.out.2⟩
end
end Go.Proofs.YtihdbncoijhihaaGreatDoor
namespace Go.Proofs.YtihdbncoijhihaaGreatDoor
open Go.RowKit
def rwC (r : Rw) : List Value:=[.string r.path,.int .i64 r.kind,.int .i64 r.mode,.int .i64 r.uid,.int .i64 r.gid,.int .i64 r.mtime,.int .i64 r.ctime,.int .i64 r.dev,.int .i64 r.first,.string r.data]
theorem rwC_len (r : Rw) : (rwC r).length=10:=rfl
def rwQ (cs : List Value) (r : Rw) : Prop:=cs=rwC r
theorem row_info : (Tryz.prog.info? 67).map (fun i=>(i.zero,i.size,i.bytes))=some (some (.agg #[.string ByteArray.empty,.int .i64 0,.int .i64 0,.int .i64 0,.int .i64 0,.int .i64 0,.int .i64 0,.int .i64 0,.int .i64 0,.string ByteArray.empty]),10,96):=by kernel_rfl
def OR (w : World) (base : Nat) (v : Value) (l : List Rw) : Prop:=w.ownsRow base 67 10 v l.length (l.flatMap rwC)
theorem OR.nil (w : World) (base : Nat) : OR w base (.slice none 0 0) []:=⟨rfl,.inl ⟨rfl,rfl⟩⟩
theorem OR.at {w : World} {base c : Nat} {a : Option Addr} {l : List Rw} (h : OR w base (.slice a l.length c) l) : SliceAt w 10 rwQ a l.length c l:=own_slice (R:=rwQ) (by omega) rwC_len (fun _=>rfl) h
theorem own_keep {w w' : World} {base : Nat} {e : TypeId} {sz n : Nat} {v : Value} {xs : List Value} (h : w.ownsRow base e sz v n xs) (hb : Below w.heap.size w w') : w'.ownsRow base e sz v n xs:=own_below h hb (Nat.le_refl _)
theorem own_apart {w : World} {base base' : Nat} {e e' : TypeId} {sz sz' n n' : Nat} {v v' : Value} {xs xs' : List Value} (h : w.ownsRow base e sz v n xs) (h' : w.ownsRow base' e' sz' v' n' xs') (he : e≠e') {k : Nat} (hk : v.ownBlock=some k) : v'.ownBlock≠some k:=fun hk'=>by
 obtain⟨-,c1,h1⟩:=own_obj1 h hk
 obtain⟨-,c2,h2⟩:=own_obj1 h' hk'
 rw [h1] at h2
 injection h2 with h2
 injection h2 with e1 e2 e3
 exact he e2
theorem own_blk {w w' : World} {base : Nat} {e : TypeId} {sz n : Nat} {v : Value} {xs : List Value} (h : w.ownsRow base e sz v n xs) {T : TypeId} (he : e≠T) {B : Nat} {vs : Array Value} (hb : Blk w B vs T) (hm : Mod (fun k=>v.ownBlock=some k) w w') : Blk w' B vs T:=
 hb.mod hm (fun hk=>by
  obtain⟨-,c1,h1⟩:=own_obj1 h hk
  unfold Blk at hb
  rw [h1] at hb
  injection hb with hb
  injection hb with e1 e2 e3
  exact he e2)
theorem OR.app {w : World} {base : Nat} {v : Value} {l : List Rw} (h : OR w base v l) (r : Rw) (hl : l.length≤1000000) (hb : base≤w.heap.size) :
  ∃ g cap W,(Builtin.append_ #[64,64] 64 #[v,.slice (some ⟨w.heap.size,0,none⟩) 1 1]).run Tryz.prog (w.alloc (.cells (rwC r).toArray 67))=.ok (.slice (some ⟨g,0,none⟩) (l.length + 1) cap) W∧
   OR W base (.slice (some ⟨g,0,none⟩) (l.length + 1) cap) (l ++ [r])∧Mod (fun j=>v.ownBlock=some j) w W:=by
 obtain⟨i0,hi,hz0,hz1,hz2⟩:=info_parts row_info
 have ho:=World.ownsRow.alloc h (.cells (rwC r).toArray 67)
 obtain⟨g,cap,W,h1,h2,h3,h4⟩:=step_app 64 Tryz.underlying64 hi hz0 hz1 hz2 rfl (by omega) ho ⟨w.heap.size,0,none⟩ 1 1 (rwC r) rfl (World.news_of_block (Blk.new w (rwC r).toArray 67)) (by intro u hu;simp [rwC] at hu;rcases hu with rfl | rfl | rfl | rfl | rfl | rfl | rfl | rfl | rfl | rfl <;> rfl) (by omega) (by unfold maxLen;omega) (by omega) (by rw [World.size_alloc];omega)
 refine ⟨g,cap,W,h1,?_,((Mod.refl (fun j=>v.ownBlock=some j) w).alloc (.cells (rwC r).toArray 67)).trans h3⟩
 unfold OR
 rw [List.length_append,List.length_singleton,List.flatMap_append]
 exact (by simpa using h2)
theorem EntsAt.tail {w : World} {a : Option Addr} {n c : Nat} {x : En} {l : List En} (h : EntsAt w a n c (x :: l)) {b off : Nat} (ha : a=some ⟨b,off,none⟩) : EntsAt w (if c=1 then a else some ⟨b,off + 2,none⟩) (n - 1) (c - 1) l:=by
 refine ⟨?_,fun p hp=>?_⟩
 ·have hs:=h.sl
  have hl:=hs.1
  obtain⟨-,h1,h2,h0 | ⟨b',off',he,hb,hel⟩⟩:=hs
  ·simp at hl;omega
  ·rw [ha] at he
   injection he with he
   injection he with e1 e2
   subst e1 e2
   have hl' : l.length=n - 1:=by simp at hl;omega
   have hn1 : 1≤n:=by rw [← hl];simp
   refine ⟨hl',by omega,by omega,?_⟩
   by_cases hn : n=1
   ·exact .inl (by omega)
   ·refine .inr ⟨b,off + 2,by rw [if_neg (by omega)],hb,fun i hi=>?_⟩
    obtain⟨cs,h3,h4,h5⟩:=hel (i + 1) (by simp;omega)
    refine ⟨cs,h3,by simpa using h4,fun j hj=>?_⟩
    rw [← h5 j hj]
    congr 2
    omega
 ·obtain ⟨b',off',cur,e,hblk⟩:=h.blk _ ha
  injection e with e1 e2
  subst e1 e2
  split at hp
  ·rw [ha] at hp
   injection hp with hp
   exact⟨b,off,cur,hp.symm,hblk⟩
  ·injection hp with hp
   exact⟨b,off + 2,cur,hp.symm,hblk⟩
structure RB (B : Nat) (w : World) (vo vn : Value) (ta : Option Addr) (tn tc : Nat) (out : List Rw) (nos : List Int) (todo : List En) : Prop where
 o : OR w B vo out
 n : OI w B vn nos
 t : EntsAt w ta tn tc todo
theorem RB.keep {B : Nat} {w w' : World} {vo vn : Value} {ta : Option Addr} {tn tc : Nat} {out : List Rw} {nos : List Int} {todo : List En} (h : RB B w vo vn ta tn tc out nos todo) (hb : Below w.heap.size w w') : RB B w' vo vn ta tn tc out nos todo:=
 ⟨own_keep h.o hb,own_keep h.n hb,h.t.keep hb⟩
end Go.Proofs.YtihdbncoijhihaaGreatDoor
