import Derived.Deep.CutBlock
import Derived.Deep.DeepCutAuto
import Derived.RegionTactic
import Derived.BigRegion
import Derived.Test.YtihdbncoijhihaaGreatCL9
import Derived.Test.YtihdbncoijhihaaGreatCL22
import Derived.Test.YtihdbncoijhihaaGreatCL7
import Derived.Test.YtihdbncoijhihaaGreatCL16
set_option linter.unusedVariables false
set_option linter.unusedSimpArgs false
set_option maxRecDepth 100000
set_option maxHeartbeats 16000000
namespace Go.Proofs.YtihdbncoijhihaaGreat
section
open Go.RowKit
def stV:Option An→Value
 | none=>.agg #[.int .i64 0,.int .i64 0,.int .i64 0,.int .i64 0,.int .i64 0,.int .i64 0,.int .i64 0,.int .i64 0,.int .i64 0,.int .i64 0]
 | some n=>.agg #[.int .i64 n.no,.int .i64 n.dev,.int .i64 n.kind,.int .i64 n.mode,.int .i64 n.uid,.int .i64 n.gid,.int .i64 n.links,.int .i64 n.data.size,.int .i64 n.mtime,.int .i64 n.ctime]
def noneE:Option An→Int
 | none=>5
 | some _=>0
theorem Blk.set10 {w:World} {B:Nat} {x0 x1 x2 x3 x4 x5 x6 x7 x8 x9 v0 v1 v2 v3 v4 v5 v6 v7 v8 v9:Value} {T:TypeId} (h:Blk w B #[x0,x1,x2,x3,x4,x5,x6,x7,x8,x9] T):Blk ((((((((((w.setCell ⟨B,0,none⟩ v0).setCell ⟨B,1,none⟩ v1).setCell ⟨B,2,none⟩ v2).setCell ⟨B,3,none⟩ v3).setCell ⟨B,4,none⟩ v4).setCell ⟨B,5,none⟩ v5).setCell ⟨B,6,none⟩ v6).setCell ⟨B,7,none⟩ v7).setCell ⟨B,8,none⟩ v8).setCell ⟨B,9,none⟩ v9) B #[v0,v1,v2,v3,v4,v5,v6,v7,v8,v9] T:=
 Blk.row (xs:=[x0,x1,x2,x3,x4,x5,x6,x7,x8,x9]) (vs:=[v0,v1,v2,v3,v4,v5,v6,v7,v8,v9]) h rfl
theorem below_set10 {N:Nat} {w0 w:World} {B:Nat} {v0 v1 v2 v3 v4 v5 v6 v7 v8 v9:Value} (h:Below N w0 w) (hB:N≤B):Below N w0 ((((((((((w.setCell ⟨B,0,none⟩ v0).setCell ⟨B,1,none⟩ v1).setCell ⟨B,2,none⟩ v2).setCell ⟨B,3,none⟩ v3).setCell ⟨B,4,none⟩ v4).setCell ⟨B,5,none⟩ v5).setCell ⟨B,6,none⟩ v6).setCell ⟨B,7,none⟩ v7).setCell ⟨B,8,none⟩ v8).setCell ⟨B,9,none⟩ v9):=
 below_row hB [v0,v1,v2,v3,v4,v5,v6,v7,v8,v9] w 0 h
theorem stat_results {tmps:Array Value} {W:World} {B:Nat} {y0 y1 y2 y3 y4 y5 y6 y7 y8 y9 e:Int} (hb:Blk W B #[.int .i64 y0,.int .i64 y1,.int .i64 y2,.int .i64 y3,.int .i64 y4,.int .i64 y5,.int .i64 y6,.int .i64 y7,.int .i64 y8,.int .i64 y9] 91)
  (h8:tmps.getD 4 undef=.pointer (some ⟨B,0,none⟩)) (h9:tmps.getD 5 undef=.int .i64 e):(results Tryz.f77 tmps).run Tryz.prog W=.ok (.tuple #[.agg #[.int .i64 y0,.int .i64 y1,.int .i64 y2,.int .i64 y3,.int .i64 y4,.int .i64 y5,.int .i64 y6,.int .i64 y7,.int .i64 y8,.int .i64 y9],.int .i64 e]) W:=by
 have q0:=hb.cell 0;have q1:=hb.cell 1;have q2:=hb.cell 2;have q3:=hb.cell 3;have q4:=hb.cell 4;have q5:=hb.cell 5;have q6:=hb.cell 6;have q7:=hb.cell 7;have q8:=hb.cell 8;have q9:=hb.cell 9;rw [Array.getD_eq_getD_getElem?] at h8 h9;simp [results,Tryz.results77,go_sem,h8,h9,q0,q1,q2,q3,q4,q5,q6,q7,q8,q9]
theorem open_results {tmps:Array Value} {W:World} {B:Nat} {a:An} {ea:Option Addr} {el ec:Nat} {e:Int} (hb:Blk W B #[.int .i64 a.no,.int .i64 a.dev,.int .i64 a.kind,.int .i64 a.mode,.int .i64 a.uid,.int .i64 a.gid,.int .i64 a.mtime,.int .i64 a.ctime,.int .i64 a.links,.int .i64 a.up,.string a.data,.slice ea el ec] 49)
  (h8:tmps.getD 10 undef=.pointer (some ⟨B,0,none⟩)) (h9:tmps.getD 11 undef=.int .i64 e):(results Tryz.f122 tmps).run Tryz.prog W=.ok (.tuple #[a.v ea el ec,.int .i64 e]) W:=by
 obtain⟨q0,q1,q2,q3,q4,q5,q6,q7,q8,q9,q10,q11⟩:=hb.cells12;rw [Array.getD_eq_getD_getElem?] at h8 h9;simp [results,Tryz.results122,go_sem,An.v,h8,h9,q0,q1,q2,q3,q4,q5,q6,q7,q8,q9,q10,q11]
def Fs.openE (S:Fs) (c:Cr) (no kind want:Int):Int:=match S.get no with
 | none=>5
 | some n=>if n.kind=kind then (if n.may c want=true then 0 else 6) else if kind=1 then 9 else if n.kind=1 then 8 else 1
def Fs.read (S:Fs) (c:Cr) (no:Int):ByteArray×Int:=if S.openE c no 2 4=0 then (match S.get no with | none=>(ByteArray.empty,0) | some n=>(n.data,0)) else (ByteArray.empty,S.openE c no 2 4)
section
variable {w w':World} {pw:Nat} {R:Rp} {S:Fs}
theorem stat_any (h:WdAt w pw R S) {N:Nat} (hk:FsOk S N) (no:Int) :
  Calls Tryz.prog 77 #[.pointer (some ⟨pw,0,none⟩),.int .i64 no] w fun e w'=>e=.returned (.tuple #[stV (S.get no),.int .i64 (noneE (S.get no))])∧Below w.heap.size w w':=by
 have HDv:=Lib.hid (fun w1 (hb1:Below w.heap.size w w1)=>wdevs_any (h.keep hb1) hk.d1);have hnz:=hk.d1;generalize S.ds.length=n at HDv hnz;have hz:((n:Int) == 0)=false:=by simp;omega
 obtain⟨pc,-,pz⟩:=h.blk.facts;have hRX:=Blk.new w #[.int .i64 0,.int .i64 0,.int .i64 0,.int .i64 0,.int .i64 0,.int .i64 0,.int .i64 0,.int .i64 0,.int .i64 0,.int .i64 0] 91;have hbX:=balloc (Below.refl w.heap.size w) (.cells #[.int .i64 0,.int .i64 0,.int .i64 0,.int .i64 0,.int .i64 0,.int .i64 0,.int .i64 0,.int .i64 0,.int .i64 0,.int .i64 0] 91)
 cases hg:S.get no with
 | none=>
  have HG:=Lib.hid (fun w1 (hb1:Below w.heap.size w w1)=>wget_no (h.keep hb1) hg);unfold An.v an0 at HG;unfold stV noneE;clear h hk hg;go_enter Tryz.func77,Tryz.ntmps77;go_wp2_with fail;refine (HDv.out _ hbX).mono ?_;rintro e w1 ⟨rfl,rfl⟩;generalize w.alloc (.cells #[.int .i64 0,.int .i64 0,.int .i64 0,.int .i64 0,.int .i64 0,.int .i64 0,.int .i64 0,.int .i64 0,.int .i64 0,.int .i64 0] 91)=W0 at hRX hbX ⊢;have HRX:=Lib.hid hRX;have HBX:=Lib.hid hbX;have pc0:W0.cell? ⟨pw,0,none⟩=some (.pointer (some ⟨R.pt,0,none⟩)):=(hbX.cell (p:=⟨pw,0,none⟩) pz).trans (pc 0);clear hRX hbX pc;go_wp2_with fail;refine (HG.out _ HBX.out).mono ?_;rintro e w1 ⟨rfl,hb1⟩;have hRY:=(HRX.out.keep hb1).old (.cells #[.int .i64 0,.int .i64 0,.int .i64 0,.int .i64 0,.int .i64 0,.int .i64 0,.int .i64 0,.int .i64 0,.int .i64 0,.int .i64 0,.string ByteArray.empty,.slice none 0 0] 49);have hbY:=balloc (HBX.out.trans (hb1.mono HBX.out.size)) (.cells #[.int .i64 0,.int .i64 0,.int .i64 0,.int .i64 0,.int .i64 0,.int .i64 0,.int .i64 0,.int .i64 0,.int .i64 0,.int .i64 0,.string ByteArray.empty,.slice none 0 0] 49);clear hb1;go_upto_region 4 with fail;generalize w1.alloc (.cells #[.int .i64 0,.int .i64 0,.int .i64 0,.int .i64 0,.int .i64 0,.int .i64 0,.int .i64 0,.int .i64 0,.int .i64 0,.int .i64 0,.string ByteArray.empty,.slice none 0 0] 49)=Y at hRY hbY ⊢;have HRY:=Lib.hid hRY;have HBY:=Lib.hid hbY;obtain⟨rc,rf,rz⟩:=hRY.facts;clear hRY hbY;go_wp2_with fail;exact bodyPost_ret (stat_results HRY.out.set10 rfl rfl) rfl ⟨rfl,below_set10 HBY.out (Nat.le_refl _)⟩
 | some d=>
  obtain⟨ea,el,ec,he,hG⟩:=wget_fix h hg;have HG:=Lib.hid hG;unfold An.v at HG;unfold stV noneE;clear h hk hg hG he;go_enter Tryz.func77,Tryz.ntmps77;go_wp2_with fail;refine (HDv.out _ hbX).mono ?_;rintro e w1 ⟨rfl,rfl⟩;generalize w.alloc (.cells #[.int .i64 0,.int .i64 0,.int .i64 0,.int .i64 0,.int .i64 0,.int .i64 0,.int .i64 0,.int .i64 0,.int .i64 0,.int .i64 0] 91)=W0 at hRX hbX ⊢;have HRX:=Lib.hid hRX;have HBX:=Lib.hid hbX;have pc0:W0.cell? ⟨pw,0,none⟩=some (.pointer (some ⟨R.pt,0,none⟩)):=(hbX.cell (p:=⟨pw,0,none⟩) pz).trans (pc 0);clear hRX hbX pc;go_wp2_with fail;refine (HG.out _ HBX.out).mono ?_;rintro e w1 ⟨rfl,hb1⟩;have hRY:=(HRX.out.keep hb1).old (.cells #[.int .i64 d.no,.int .i64 d.dev,.int .i64 d.kind,.int .i64 d.mode,.int .i64 d.uid,.int .i64 d.gid,.int .i64 d.mtime,.int .i64 d.ctime,.int .i64 d.links,.int .i64 d.up,.string d.data,.slice ea el ec] 49);have hbY:=balloc (HBX.out.trans (hb1.mono HBX.out.size)) (.cells #[.int .i64 d.no,.int .i64 d.dev,.int .i64 d.kind,.int .i64 d.mode,.int .i64 d.uid,.int .i64 d.gid,.int .i64 d.mtime,.int .i64 d.ctime,.int .i64 d.links,.int .i64 d.up,.string d.data,.slice ea el ec] 49);have hDY:=Blk.new w1 #[.int .i64 d.no,.int .i64 d.dev,.int .i64 d.kind,.int .i64 d.mode,.int .i64 d.uid,.int .i64 d.gid,.int .i64 d.mtime,.int .i64 d.ctime,.int .i64 d.links,.int .i64 d.up,.string d.data,.slice ea el ec] 49;clear hb1;go_upto_region 4 with fail;generalize w1.alloc (.cells #[.int .i64 d.no,.int .i64 d.dev,.int .i64 d.kind,.int .i64 d.mode,.int .i64 d.uid,.int .i64 d.gid,.int .i64 d.mtime,.int .i64 d.ctime,.int .i64 d.links,.int .i64 d.up,.string d.data,.slice ea el ec] 49)=Y at hRY hbY hDY ⊢;have HRY:=Lib.hid hRY;have HBY:=Lib.hid hbY;obtain⟨rc,rf,rz⟩:=hRY.facts;obtain⟨dc,df,dz⟩:=hDY.facts;clear hRY hbY hDY;go_wp2_with fail;exact bodyPost_ret (stat_results HRY.out.set10 rfl rfl) rfl ⟨rfl,below_set10 HBY.out (Nat.le_refl _)⟩
theorem open_any (h:WdAt w pw R S) {N:Nat} (hk:FsOk S N) (c:Cr) (no kind want:Int) :
  Calls Tryz.prog 122 #[.pointer (some ⟨pw,0,none⟩),.agg #[.int .i64 c.u,.int .i64 c.g],.int .i64 no,.int .i64 kind,.int .i64 want] w fun e w'=>((S.openE c no kind want≠0∧e=.returned (.tuple #[an0.v none 0 0,.int .i64 (S.openE c no kind want)]))∨(S.openE c no kind want=0∧∃ d ea el ec,S.get no=some d∧e=.returned (.tuple #[d.v ea el ec,.int .i64 0])∧EntsAt w ea el ec d.ents))∧Below w.heap.size w w':=by
 have HDv:=Lib.hid (fun w1 (hb1:Below w.heap.size w w1)=>wdevs_any (h.keep hb1) hk.d1);have hnz:=hk.d1;generalize S.ds.length=n at HDv hnz;have hz:((n:Int) == 0)=false:=by simp;omega
 obtain⟨pc,-,pz⟩:=h.blk.facts;have hRX:Blk ((w.alloc (.cells #[.int .i64 c.u,.int .i64 c.g] 67)).alloc (.cells #[.int .i64 0,.int .i64 0,.int .i64 0,.int .i64 0,.int .i64 0,.int .i64 0,.int .i64 0,.int .i64 0,.int .i64 0,.int .i64 0,.string ⟨#[]⟩,.slice none 0 0] 49)) (w.heap.size+1) #[.int .i64 0,.int .i64 0,.int .i64 0,.int .i64 0,.int .i64 0,.int .i64 0,.int .i64 0,.int .i64 0,.int .i64 0,.int .i64 0,.string ⟨#[]⟩,.slice none 0 0] 49:=by
  have:=Blk.new (w.alloc (.cells #[.int .i64 c.u,.int .i64 c.g] 67)) #[.int .i64 0,.int .i64 0,.int .i64 0,.int .i64 0,.int .i64 0,.int .i64 0,.int .i64 0,.int .i64 0,.int .i64 0,.int .i64 0,.string ⟨#[]⟩,.slice none 0 0] 49
  rwa [World.size_alloc] at this
 have hCX:=(Blk.new w #[.int .i64 c.u,.int .i64 c.g] 67).old (.cells #[.int .i64 0,.int .i64 0,.int .i64 0,.int .i64 0,.int .i64 0,.int .i64 0,.int .i64 0,.int .i64 0,.int .i64 0,.int .i64 0,.string ⟨#[]⟩,.slice none 0 0] 49);have hbX:=balloc (balloc (Below.refl w.heap.size w) (.cells #[.int .i64 c.u,.int .i64 c.g] 67)) (.cells #[.int .i64 0,.int .i64 0,.int .i64 0,.int .i64 0,.int .i64 0,.int .i64 0,.int .i64 0,.int .i64 0,.int .i64 0,.int .i64 0,.string ⟨#[]⟩,.slice none 0 0] 49)
 cases hg:S.get no with
 | none=>
  have HE:=Lib.hid (show S.openE c no kind want=5 by unfold Fs.openE;rw [hg]);have HG:=Lib.hid (fun w1 (hb1:Below w.heap.size w w1)=>wget_no (h.keep hb1) hg);unfold An.v an0 at HG;generalize S.openE c no kind want=oe at HE ⊢;clear h hk hg;go_enter Tryz.func122,Tryz.ntmps122;go_wp2_with fail;refine (HDv.out _ hbX).mono ?_;rintro e w1 ⟨rfl,rfl⟩;generalize (w.alloc (.cells #[.int .i64 c.u,.int .i64 c.g] 67)).alloc (.cells #[.int .i64 0,.int .i64 0,.int .i64 0,.int .i64 0,.int .i64 0,.int .i64 0,.int .i64 0,.int .i64 0,.int .i64 0,.int .i64 0,.string ⟨#[]⟩,.slice none 0 0] 49)=W0 at hRX hCX hbX ⊢;have HRX:=Lib.hid hRX;have HBX:=Lib.hid hbX;have pc0:W0.cell? ⟨pw,0,none⟩=some (.pointer (some ⟨R.pt,0,none⟩)):=(hbX.cell (p:=⟨pw,0,none⟩) pz).trans (pc 0);clear hRX hbX pc hCX;go_wp2_with fail;refine (HG.out _ HBX.out).mono ?_;rintro e w1 ⟨rfl,hb1⟩;have hRY:=(HRX.out.keep hb1).old (.cells #[.int .i64 0,.int .i64 0,.int .i64 0,.int .i64 0,.int .i64 0,.int .i64 0,.int .i64 0,.int .i64 0,.int .i64 0,.int .i64 0,.string ByteArray.empty,.slice none 0 0] 49);have hbY:=balloc (HBX.out.trans (hb1.mono HBX.out.size)) (.cells #[.int .i64 0,.int .i64 0,.int .i64 0,.int .i64 0,.int .i64 0,.int .i64 0,.int .i64 0,.int .i64 0,.int .i64 0,.int .i64 0,.string ByteArray.empty,.slice none 0 0] 49);clear hb1;go_upto_region 4 with fail;generalize w1.alloc (.cells #[.int .i64 0,.int .i64 0,.int .i64 0,.int .i64 0,.int .i64 0,.int .i64 0,.int .i64 0,.int .i64 0,.int .i64 0,.int .i64 0,.string ByteArray.empty,.slice none 0 0] 49)=Y at hRY hbY ⊢;have HRY:=Lib.hid hRY;have HBY:=Lib.hid hbY;obtain⟨rc,rf,rz⟩:=hRY.facts;clear hRY hbY;go_wp2_with fail;exact bodyPost_ret (open_results (a:=an0) HRY.out.set12 rfl rfl) rfl ⟨.inl ⟨by rw [HE.out];decide,by rw [HE.out]⟩,below_set12 HBY.out (Nat.le_succ _)⟩
 | some d=>
  obtain⟨ea,el,ec,he,hG⟩:=wget_fix h hg;have HG:=Lib.hid hG;have HE0:=Lib.hid he;have HQ:=Lib.hid (show S.openE c no kind want=if d.kind=kind then (if d.may c want=true then 0 else 6) else if kind=1 then 9 else if d.kind=1 then 8 else 1 by unfold Fs.openE;rw [hg]);have HNd:=Lib.hid (fun w=>pnode_any c d ea el ec want w);unfold Cr.v An.v at HNd;unfold An.v at HG;generalize S.openE c no kind want=oe at HQ ⊢;clear h hk hg hG he;go_enter Tryz.func122,Tryz.ntmps122;go_wp2_with fail;refine (HDv.out _ hbX).mono ?_;rintro e w1 ⟨rfl,rfl⟩;generalize (w.alloc (.cells #[.int .i64 c.u,.int .i64 c.g] 67)).alloc (.cells #[.int .i64 0,.int .i64 0,.int .i64 0,.int .i64 0,.int .i64 0,.int .i64 0,.int .i64 0,.int .i64 0,.int .i64 0,.int .i64 0,.string ⟨#[]⟩,.slice none 0 0] 49)=W0 at hRX hCX hbX ⊢;have HRX:=Lib.hid hRX;have HBX:=Lib.hid hbX;have HCX:=Lib.hid hCX;have pc0:W0.cell? ⟨pw,0,none⟩=some (.pointer (some ⟨R.pt,0,none⟩)):=(hbX.cell (p:=⟨pw,0,none⟩) pz).trans (pc 0);clear hRX hbX pc hCX;go_wp2_with fail;refine (HG.out _ HBX.out).mono ?_;rintro e w1 ⟨rfl,hb1⟩;have hRY:=(HRX.out.keep hb1).old (.cells #[.int .i64 d.no,.int .i64 d.dev,.int .i64 d.kind,.int .i64 d.mode,.int .i64 d.uid,.int .i64 d.gid,.int .i64 d.mtime,.int .i64 d.ctime,.int .i64 d.links,.int .i64 d.up,.string d.data,.slice ea el ec] 49);have hCY:=(HCX.out.keep hb1).old (.cells #[.int .i64 d.no,.int .i64 d.dev,.int .i64 d.kind,.int .i64 d.mode,.int .i64 d.uid,.int .i64 d.gid,.int .i64 d.mtime,.int .i64 d.ctime,.int .i64 d.links,.int .i64 d.up,.string d.data,.slice ea el ec] 49);have hbY:=balloc (HBX.out.trans (hb1.mono HBX.out.size)) (.cells #[.int .i64 d.no,.int .i64 d.dev,.int .i64 d.kind,.int .i64 d.mode,.int .i64 d.uid,.int .i64 d.gid,.int .i64 d.mtime,.int .i64 d.ctime,.int .i64 d.links,.int .i64 d.up,.string d.data,.slice ea el ec] 49);have hDY:=Blk.new w1 #[.int .i64 d.no,.int .i64 d.dev,.int .i64 d.kind,.int .i64 d.mode,.int .i64 d.uid,.int .i64 d.gid,.int .i64 d.mtime,.int .i64 d.ctime,.int .i64 d.links,.int .i64 d.up,.string d.data,.slice ea el ec] 49;clear hb1;go_upto_region 4 with fail;generalize w1.alloc (.cells #[.int .i64 d.no,.int .i64 d.dev,.int .i64 d.kind,.int .i64 d.mode,.int .i64 d.uid,.int .i64 d.gid,.int .i64 d.mtime,.int .i64 d.ctime,.int .i64 d.links,.int .i64 d.up,.string d.data,.slice ea el ec] 49)=Y at hRY hbY hDY hCY ⊢;have HRY:=Lib.hid hRY;have HBY:=Lib.hid hbY;have HDY:=Lib.hid hDY;obtain⟨rc,rf,rz⟩:=hRY.facts;obtain⟨dc,df,dz⟩:=hDY.facts;obtain⟨cc,-,-⟩:=hCY.facts;clear hRY hbY hDY hCY;by_cases h1:d.kind=kind
  ·have h1':(d.kind == kind)=true:=by simpa using h1
   have HQ1:=Lib.hid (HQ.out.trans (if_pos h1));clear h1 HQ;go_wp2_with fail;refine (HNd.out _).mono ?_;rintro e w5 ⟨rfl,hb5⟩;have hRZ:=HRY.out.keep hb5;have hDZ:=HDY.out.keep hb5;have HRZ:=Lib.hid hRZ;have HBZ:=Lib.hid (HBY.out.trans (hb5.mono HBY.out.size));clear rc rf rz dc df dz cc hb5;obtain⟨rc,rf,rz⟩:=hRZ.facts;obtain⟨dc,df,dz⟩:=hDZ.facts;clear hRZ hDZ
   cases hm:d.may c want with
   | true=>
    have HE:=Lib.hid (HQ1.out.trans (if_pos hm));clear hm;go_wp2_with fail;exact bodyPost_ret (open_results (a:=d) (ea:=ea) (el:=el) (ec:=ec) HRZ.out.set12 rfl rfl) rfl ⟨.inr ⟨HE.out,d,ea,el,ec,rfl,rfl,HE0.out⟩,below_set12 HBZ.out (Nat.le_succ _)⟩
   | false=>
    have HE:=Lib.hid (HQ1.out.trans (if_neg (by rw [hm];decide)));clear hm;go_wp2_with fail;exact bodyPost_ret (open_results (a:=an0) HRZ.out.set12 rfl rfl) rfl ⟨.inl ⟨by rw [HE.out];decide,by rw [HE.out]⟩,below_set12 HBZ.out (Nat.le_succ _)⟩
  ·have h1':(d.kind == kind)=false:=by simpa using h1
   have HQ1:=Lib.hid (HQ.out.trans (if_neg h1));clear h1 HQ;by_cases h2:kind=1
   ·have h2':(kind == 1)=true:=by simpa using h2
    have HE:=Lib.hid (HQ1.out.trans (if_pos h2));clear h2;go_wp2_with fail;exact bodyPost_ret (open_results (a:=an0) HRY.out.set12 rfl rfl) rfl ⟨.inl ⟨by rw [HE.out];decide,by rw [HE.out]⟩,below_set12 HBY.out (Nat.le_succ _)⟩
   ·have h2':(kind == 1)=false:=by simpa using h2
    have HQ2:=Lib.hid (HQ1.out.trans (if_neg h2));clear h2 HQ1;by_cases h3:d.kind=1
    ·have h3':(d.kind == 1)=true:=by simpa using h3
     have HE:=Lib.hid (HQ2.out.trans (if_pos h3));clear h3;go_wp2_with fail;exact bodyPost_ret (open_results (a:=an0) HRY.out.set12 rfl rfl) rfl ⟨.inl ⟨by rw [HE.out];decide,by rw [HE.out]⟩,below_set12 HBY.out (Nat.le_succ _)⟩
    ·have h3':(d.kind == 1)=false:=by simpa using h3
     have HE:=Lib.hid (HQ2.out.trans (if_neg h3));clear h3;go_wp2_with fail;exact bodyPost_ret (open_results (a:=an0) HRY.out.set12 rfl rfl) rfl ⟨.inl ⟨by rw [HE.out];decide,by rw [HE.out]⟩,below_set12 HBY.out (Nat.le_succ _)⟩
end
end
section
open Go.RowKit
theorem own_low {w:World} {base base' sz n:Nat} {e:TypeId} {v:Value} {xs:List Value} (h:w.ownsRow base e sz v n xs) (hb:base'≤base):w.ownsRow base' e sz v n xs:=
 ⟨h.1,h.2.imp id fun ⟨g,cap,cur,hv,hg,rest⟩=>⟨g,cap,cur,hv,Nat.le_trans hb hg,rest⟩⟩
theorem flt_info:(Tryz.prog.info? 242).map (fun i=>(i.zero,i.size,i.bytes))=some (some (.agg #[.int .i64 0,.int .i64 0]),2,16):=by kernel_rfl
theorem slice_cell2 {w:World} {b off n c:Nat} {l:List (Int×Int)} (h:SliceAt w 2 fltR (some ⟨b,off,none⟩) n c l) (j:Nat) (u:Value) (hu:(l.flatMap fltC)[j]? = some u):w.cell? (Addr.add ⟨b,off,none⟩ j)=some u:=by
 obtain⟨hl,-,-,h0 | ⟨b',off',he,hb,hel⟩⟩:=h
 ·rw [show l=[] from List.eq_nil_of_length_eq_zero (by omega)] at hu;simp at hu
 ·injection he with he;injection he with e1 e2;subst e1 e2;have hjl:j<l.length*2:=by
   have:=(List.getElem?_eq_some_iff.1 hu).1
   rwa [flat_len fltC_len] at this
  have hk:j / 2<l.length:=by omega
  obtain⟨cs,h1,h2,h3⟩:=hel (j / 2) hk;unfold fltR at h2;subst h2;have h4:=h3 (j % 2) (by rw [fltC_len];omega);have h5:off+j / 2*2+j % 2=off+j:=by omega
  rw [h5] at h4;have h6:(l.flatMap fltC)[j]? = (fltC l[j / 2])[j % 2]?:=by
   clear h4 h3 hu h1 hel hjl h5 hl hb
   induction l generalizing j with
   | nil=>simp at hk
   | cons x l ih=>
    rw [List.flatMap_cons];by_cases hj:j<2
    ·rw [List.getElem?_append_left (by rw [fltC_len];exact hj)];have e1:j / 2=0:=by omega
     have e2:j % 2=j:=by omega
     simp [e1,e2]
    ·rw [List.getElem?_append_right (by rw [fltC_len];omega),fltC_len];have hk':(j - 2) / 2<l.length:=by simp only [List.length_cons] at hk;omega
     rw [ih (j - 2) hk'];have e1:j / 2=(j - 2) / 2+1:=by omega
     have e2:j % 2=(j - 2) % 2:=by omega
     simp [e1,e2]
  rw [h6,List.getElem?_eq_getElem (by rw [fltC_len];omega)] at hu;injection hu with hu;rw [←hu,←h4];by_cases hz:j=0
  ·subst hz;simp [Addr.add]
  ·simp [Addr.add,hz]
section
variable {w w':World} {pf pw:Nat} {R:Rp} {pv:Value} {Y:Sy}
def sy0 (b n:Int):Sy:=⟨fs0.addRoot 0 b n,0,0,[],false⟩
theorem snew_any (b n:Int) (hlim:limB b n=true) (w:World) :
  Calls Tryz.prog 103 #[.int .i64 b,.int .i64 n] w fun e w'=>∃ pf pw R,e=.returned (.tuple #[.pointer (some ⟨pf,0,none⟩),.int .i64 0])∧SyAt w' pf pw R (.slice none 0 0) (sy0 b n)∧Below w.heap.size w w'∧∀ k,R.Y pf pw k→w.heap.size≤k:=by
 have HN:=Lib.hid (wnew_yes b n hlim w);clear hlim;go_enter Tryz.func103,Tryz.ntmps103;go_wp2_with fail;refine HN.out.mono ?_;rintro e w1 ⟨pw,R,rfl,hW,hb,hF⟩;have HX:=Lib.hid (And.intro hW (And.intro hb hF));clear hW hb hF;go_wp2_with fail;go_ret2;obtain⟨hW,hb,hF⟩:=HX.out;refine ⟨w1.heap.size,pw,R,rfl,⟨Blk.new _ _ _,hW.keep ((Below.refl _ _).alloc (Nat.le_refl _) _),⟨rfl,.inl ⟨rfl,rfl⟩⟩⟩,balloc hb _,fun k hk=>?_⟩;rcases hk with rfl | hk
 ·exact hb.size
 ·exact hF k hk
theorem flt_app {W:World} {a:Option Addr} {n c:Nat} {l:List (Int×Int)} (hl:SliceAt W 2 fltR a n c l) (hn:l.length≤1000000) :
  ∃ v W',(Builtin.append_ #[28,28] 28 #[.slice none 0 0,.slice a n c]).run Tryz.prog W=.ok v W'∧W'.ownsRow W.heap.size 242 2 v l.length (l.flatMap fltC)∧Below W.heap.size W W':=by
 obtain⟨i0,hi,hz0,hz1,hz2⟩:=info_parts flt_info;have hln:=hl.1;have hnil:W.ownsRow W.heap.size 242 2 (.slice none 0 0) 0 []:=⟨rfl,.inl ⟨rfl,rfl⟩⟩;by_cases h0:n=0
 ·subst h0;rw [show l=[] from List.eq_nil_of_length_eq_zero (by omega)];exact⟨_,W,step_app_nil _ Tryz.underlying28 hi hnil a c,hnil,Below.refl _ _⟩
 ·obtain ⟨b,off,rfl⟩:∃ b off,a=some ⟨b,off,none⟩:=by
   obtain⟨-,-,-,h | ⟨b,off,h,-⟩⟩:=hl
   ·exact absurd h h0
   ·exact ⟨b,off,h⟩
  obtain⟨g,cap,W',h1,h2,h3,h4⟩:=step_app 28 Tryz.underlying28 hi hz0 hz1 hz2 rfl (by omega) hnil ⟨b,off,none⟩ n c (l.flatMap fltC) (by rw [flat_len fltC_len,hln]) (fun j u hu=>slice_cell2 hl j u hu)
   (by intro u hu;obtain ⟨y,-,hy⟩:=List.mem_flatMap.1 hu;simp [fltC] at hy;rcases hy with rfl | rfl <;> rfl) (by omega) (by unfold maxLen;omega) (by omega) (Nat.le_refl _)
  refine ⟨_,W',h1,?_,h3.below (fun k hk=>by cases hk) (Nat.le_refl _)⟩;rw [hln];rw [List.nil_append,Nat.zero_add] at h2;rw [Nat.zero_add];exact h2
theorem splan_any (h:SyAt w pf pw R pv Y) {a:Option Addr} {n c:Nat} {l:List (Int×Int)} (hl:SliceAt w 2 fltR a n c l) (hpa:∀ b off,a=some ⟨b,off,none⟩→b≠pf) (hn:l.length≤1000000) :
  Calls Tryz.prog 113 #[.pointer (some ⟨pf,0,none⟩),.slice a n c] w fun e w'=>e=.returned (.tuple #[])∧∃ pv',SyAt w' pf pw R pv' {Y with count:=0,plan:=l}∧Mod (fun k=>k=pf) w w':=by
 have HN:=Lib.hid (snone_any h);have HY:=Lib.hid h;have hl1:SliceAt (w.setCell ⟨pf,2,none⟩ (.int .i64 0)) 2 fltR a n c l:=by
  refine ⟨hl.1,hl.2.1,hl.2.2.1,hl.2.2.2.imp id ?_⟩;rintro ⟨b,off,rfl,hlt,hel⟩;have hq:=Below.heap_setCell w ⟨pf,2,none⟩ (.int .i64 0) b (hpa b off rfl);refine ⟨b,off,rfl,by simpa [World.setCell] using hlt,fun i hi=>?_⟩;obtain⟨cs,h1,h2,h3⟩:=hel i hi;refine ⟨cs,h1,h2,fun j hj=>?_⟩;rw [←h3 j hj];simp only [World.cell?,hq]
 obtain⟨v,W,hrun,hown,hbW⟩:=flt_app hl1 hn;obtain⟨a1,c1,rfl,-,-,-⟩:=own_form hown;have hB1:=h.blk.set 2 (.int .i64 0);have hBW:=hB1.keep hbW;have HR:=Lib.hid hrun;have HX:=Lib.hid (And.intro hown (And.intro hbW hBW));obtain⟨pc,pf',pz⟩:=h.blk.facts;obtain⟨qc,qf,qz⟩:=hBW.facts;clear h hl hl1 hrun hown hbW hB1 hBW;go_enter Tryz.func113,Tryz.ntmps113;go_wp2_with (first | (go_at_call 84;((with_reducible refine HN.out.mono ?_);rintro e w1 ⟨rfl,rfl⟩)) | (at_builtin;refine wpList_app_run rfl rfl rfl rfl HR.out ?_))
 go_end0
 obtain⟨hown,hbW,hBW⟩:=HX.out;have hm1:=(Mod.refl (fun k=>k=pf) w).setCell (a:=⟨pf,2,none⟩) (.inl rfl) (.int .i64 0);have hm:=(hm1.trans (Mod.of_below hbW)).setCell (a:=⟨pf,3,none⟩) (.inl rfl) (.slice a1 l.length c1);have hlt:pf<(w.setCell ⟨pf,2,none⟩ (.int .i64 0)).heap.size:=by simpa [World.setCell] using HY.out.blk.lt
 refine ⟨rfl,.slice a1 l.length c1,⟨hBW.set 3 _,HY.out.wd.mod hm (fun k o hk ho=>?_),?_⟩,hm⟩
 ·subst hk;have hb:=HY.out.blk;unfold Blk at hb;rw [hb] at ho;injection ho with ho;subst ho;exact⟨rfl,fun cur e=>by cases e⟩
 ·refine own_low (own_mod hown ((Mod.refl (fun k=>k=pf) W).setCell (a:=⟨pf,3,none⟩) (.inl rfl) _) (fun k hk he=>?_)) (Nat.zero_le _);subst hk;have:=(own_obj1 hown he).1;omega
def Sy.wake (Y:Sy):Sy:={Y with count:=0,plan:=[],dead:=false}
theorem swake_any (h:SyAt w pf pw R pv Y) :
  Calls Tryz.prog 110 #[.pointer (some ⟨pf,0,none⟩)] w fun e w'=>e=.returned (.tuple #[])∧∃ pv',SyAt w' pf pw R pv' Y.wake∧Mod (fun k=>k=pf) w w':=by
 have HN:=Lib.hid (snone_any h);have hm1:=(Mod.refl (fun k=>k=pf) w).setCell (a:=⟨pf,4,none⟩) (.inl rfl) (.bool false);have hY1:=h.turnF hm1 (Z:={Y with dead:=false}) rfl rfl (h.blk.set 4 (.bool false));have HP:=Lib.hid (splan_any hY1 (a:=none) (n:=0) (c:=0) (l:=[]) ⟨rfl,Nat.le_refl _,by omega,.inl rfl⟩ (fun b off h=>by cases h) (Nat.zero_le _));have HM:=Lib.hid hm1;obtain⟨pc,pf',pz⟩:=h.blk.facts;clear h hm1 hY1;go_enter Tryz.func110,Tryz.ntmps110;go_wp2_with fail;refine HN.out.mono ?_;rintro e w1 ⟨rfl,rfl⟩;go_wp2_with fail;refine HP.out.mono ?_;rintro e w2 ⟨rfl,pv',hY2,hm2⟩;have HX:=Lib.hid (And.intro hY2 hm2);clear hY2 hm2;go_wp2_with fail
 go_end0
 exact⟨rfl,pv',HX.out.1,HM.out.trans HX.out.2⟩
end
end
section
open Go.RowKit
theorem sstat_results {tmps:Array Value} {W:World} {B:Nat} {y0 y1 y2 y3 y4 y5 y6 y7 y8 y9 e:Int} (hb:Blk W B #[.int .i64 y0,.int .i64 y1,.int .i64 y2,.int .i64 y3,.int .i64 y4,.int .i64 y5,.int .i64 y6,.int .i64 y7,.int .i64 y8,.int .i64 y9] 91)
  (h8:tmps.getD 4 undef=.pointer (some ⟨B,0,none⟩)) (h9:tmps.getD 5 undef=.int .i64 e):(results Tryz.f33 tmps).run Tryz.prog W=.ok (.tuple #[.agg #[.int .i64 y0,.int .i64 y1,.int .i64 y2,.int .i64 y3,.int .i64 y4,.int .i64 y5,.int .i64 y6,.int .i64 y7,.int .i64 y8,.int .i64 y9],.int .i64 e]) W:=by
 have q0:=hb.cell 0;have q1:=hb.cell 1;have q2:=hb.cell 2;have q3:=hb.cell 3;have q4:=hb.cell 4;have q5:=hb.cell 5;have q6:=hb.cell 6;have q7:=hb.cell 7;have q8:=hb.cell 8;have q9:=hb.cell 9;rw [Array.getD_eq_getD_getElem?] at h8 h9;simp [results,Tryz.results33,go_sem,h8,h9,q0,q1,q2,q3,q4,q5,q6,q7,q8,q9]
section
variable {w w':World} {pf pw:Nat} {R:Rp} {pv:Value} {Y:Sy}
theorem sstat_any (h:SyAt w pf pw R pv Y) {N:Nat} (hk:FsOk Y.fs N) (hd:Y.dead=false) (no:Int) :
  Calls Tryz.prog 33 #[.pointer (some ⟨pf,0,none⟩),.int .i64 no] w fun e w'=>e=.returned (.tuple #[stV (Y.fs.get no),.int .i64 (noneE (Y.fs.get no))])∧Below w.heap.size w w':=by
 have hRX:=Blk.new w #[.int .i64 0,.int .i64 0,.int .i64 0,.int .i64 0,.int .i64 0,.int .i64 0,.int .i64 0,.int .i64 0,.int .i64 0,.int .i64 0] 91;have hbX:=balloc (Below.refl w.heap.size w) (.cells #[.int .i64 0,.int .i64 0,.int .i64 0,.int .i64 0,.int .i64 0,.int .i64 0,.int .i64 0,.int .i64 0,.int .i64 0,.int .i64 0] 91);have HR:=Lib.hid (fun w1 (hb1:Below w.heap.size w w1)=>sread_any (h.keep hb1));rw [hd] at HR;have HS:=Lib.hid (fun w1 (hb1:Below w.heap.size w w1)=>stat_any (h.wd.keep hb1) hk no);obtain⟨pc,-,pz⟩:=h.blk.facts;have HPC:=Lib.hid (fun w1 (hb1:Below w.heap.size w w1)=>show w1.cell? ⟨pf,0,none⟩=some (.pointer (some ⟨pw,0,none⟩)) from (hb1.cell (p:=⟨pf,0,none⟩) pz).trans (pc 0));clear h hk hd pc pz
 cases hg:Y.fs.get no with
 | none=>
  rw [hg] at HS;unfold stV noneE at HS ⊢;clear hg;go_enter Tryz.func33,Tryz.ntmps33;go_wp2_with fail;refine (HR.out _ hbX).mono ?_;rintro e w1 ⟨rfl,rfl⟩;generalize w.alloc (.cells #[.int .i64 0,.int .i64 0,.int .i64 0,.int .i64 0,.int .i64 0,.int .i64 0,.int .i64 0,.int .i64 0,.int .i64 0,.int .i64 0] 91)=W0 at hRX hbX ⊢;have HRX:=Lib.hid hRX;have HBX:=Lib.hid hbX;have pc0:=HPC.out _ hbX;clear hRX hbX;go_wp2_with fail;refine (HS.out _ HBX.out).mono ?_;rintro e w1 ⟨rfl,hb1⟩;have hRY:=HRX.out.keep hb1;have HRY:=Lib.hid hRY;have HBY:=Lib.hid (HBX.out.trans (hb1.mono HBX.out.size));obtain⟨rc,rf,rz⟩:=hRY.facts;clear hRY hb1;go_wp2_with fail;exact bodyPost_ret (sstat_results HRY.out.set10 rfl rfl) rfl ⟨rfl,below_set10 HBY.out (Nat.le_refl _)⟩
 | some d=>
  rw [hg] at HS;unfold stV noneE at HS ⊢;clear hg;go_enter Tryz.func33,Tryz.ntmps33;go_wp2_with fail;refine (HR.out _ hbX).mono ?_;rintro e w1 ⟨rfl,rfl⟩;generalize w.alloc (.cells #[.int .i64 0,.int .i64 0,.int .i64 0,.int .i64 0,.int .i64 0,.int .i64 0,.int .i64 0,.int .i64 0,.int .i64 0,.int .i64 0] 91)=W0 at hRX hbX ⊢;have HRX:=Lib.hid hRX;have HBX:=Lib.hid hbX;have pc0:=HPC.out _ hbX;clear hRX hbX;go_wp2_with fail;refine (HS.out _ HBX.out).mono ?_;rintro e w1 ⟨rfl,hb1⟩;have hRY:=HRX.out.keep hb1;have HRY:=Lib.hid hRY;have HBY:=Lib.hid (HBX.out.trans (hb1.mono HBX.out.size));obtain⟨rc,rf,rz⟩:=hRY.facts;clear hRY hb1;go_wp2_with fail;exact bodyPost_ret (sstat_results HRY.out.set10 rfl rfl) rfl ⟨rfl,below_set10 HBY.out (Nat.le_refl _)⟩
end
end
section
open Go.RowKit
theorem parts_size (l:List UInt8):∀ p∈partsL l,p.length≤l.length:=fun p hp=>spl_size 47 l p (List.mem_filter.1 hp).1
theorem fd0_size:fd0.name.size≤1048576:=by show (0:Nat)≤_;omega
theorem seekL_size {S:Fs} (hS:∀ k a,S.get k=some a→a.data.size≤1048576) (c:Cr) (f:Bool) (k:Option (Int→Bool→List (List UInt8)→Fd×Int))
  (hk:∀ g,k=some g→∀ at' must l,(∀ p∈l,p.length≤1048576)→(g at' must l).1.name.size≤1048576) :
  ∀ (l:List (List UInt8)) (at':Int) (must:Bool),(∀ p∈l,p.length≤1048576)→(S.seekL c f k l at' must).1.name.size≤1048576
 | [],at',must,_=>by rw [Fs.seekL];show (0:Nat)≤_;omega
 | p :: l,at',must,hl=>by
  have hp:(str p).size≤1048576:=by rw [str_size];exact hl p (by simp)
  have hl':∀ q∈l,q.length≤1048576:=fun q hq=>hl q (by simp [hq]);have ih:=seekL_size hS c f k hk l;rw [Fs.seekL]
  split
  ·exact fd0_size
  ·split
   ·exact ih _ _ hl'
   ·split
    ·split
     ·exact hp
     ·exact fd0_size
    ·rename_i n hn
     split
     ·cases hkk:k with
      | none=>exact fd0_size
      | some g=>
       simp only
       split
       ·exact fd0_size
       ·refine hk g hkk _ _ _ (fun q hq=>?_);rcases List.mem_append.1 hq with hq | hq
        ·have h1:=parts_size _ q hq;have h2:n.data.data.toList.length=n.data.size:=Array.length_toList;have h3:=hS _ n hn;omega
        ·exact hl' q hq
     ·split
      ·exact fd0_size
      ·split
       ·exact hp
       ·exact ih _ _ hl'
theorem seekH_size {S:Fs} (hS:∀ k a,S.get k=some a→a.data.size≤1048576) (c:Cr) (f:Bool):∀ (h:Nat) (at':Int) (must:Bool) (l:List (List UInt8)),(∀ p∈l,p.length≤1048576)→(S.seekH c f h at' must l).1.name.size≤1048576
 | 0,at',must,l,hl=>seekL_size hS c f none (fun g h=>by cases h) l at' must hl
 | h+1,at',must,l,hl=>seekL_size hS c f (some (S.seekH c f h)) (fun g hg at' must l hl=>by injection hg with hg;subst hg;exact seekH_size hS c f h at' must l hl) l at' must hl
theorem path_size {S:Fs} {N:Nat} (hk:FsOk S N) (c:Cr) (s:ByteArray) (hs:s.size≤1048576) (f:Bool):(S.path c s f).1.name.size≤1048576:=by
 unfold Fs.path
 split
 ·exact fd0_size
 ·refine seekH_size (fun k a h=>(hk.get h).1.data) c f 8 1 _ _ (fun p hp=>?_);have h1:=parts_size _ p hp;have h2:s.data.toList.length=s.size:=Array.length_toList;omega
end
section
open Go.RowKit
theorem sfind_results {tmps:Array Value} {W:World} {B:Nat} {x:Fd} {e:Int} (hb:Blk W B #[.int .i64 x.dir,.string x.name,.int .i64 x.no,.bool x.slash] 118)
  (h8:tmps.getD 8 undef=.pointer (some ⟨B,0,none⟩)) (h9:tmps.getD 9 undef=.int .i64 e):(results Tryz.f50 tmps).run Tryz.prog W=.ok (.tuple #[x.v,.int .i64 e]) W:=by
 have q0:=hb.cell 0;have q1:=hb.cell 1;have q2:=hb.cell 2;have q3:=hb.cell 3;rw [Array.getD_eq_getD_getElem?] at h8 h9;simp [results,Tryz.results50,go_sem,Fd.v,h8,h9,q0,q1,q2,q3]
section
variable {w w':World} {pf pw:Nat} {R:Rp} {pv:Value} {Y:Sy}
theorem sfind_any (h:SyAt w pf pw R pv Y) {N:Nat} (hk:FsOk Y.fs N) (hN:N≤999999) (hd:Y.dead=false) (c:Cr) (path:ByteArray) (hp:path.size≤100000) (f:Bool) :
  Calls Tryz.prog 50 #[.pointer (some ⟨pf,0,none⟩),.agg #[.int .i64 c.u,.int .i64 c.g],.string path,.bool f] w fun e w'=>e=.returned (.tuple #[(Y.fs.path c path f).1.v,.int .i64 (Y.fs.path c path f).2])∧Below w.heap.size w w':=by
 have hRX:Blk ((w.alloc (.cells #[.int .i64 c.u,.int .i64 c.g] 67)).alloc (.cells #[.int .i64 0,.string ⟨#[]⟩,.int .i64 0,.bool false] 118)) (w.heap.size+1) #[.int .i64 0,.string ⟨#[]⟩,.int .i64 0,.bool false] 118:=by
  have:=Blk.new (w.alloc (.cells #[.int .i64 c.u,.int .i64 c.g] 67)) #[.int .i64 0,.string ⟨#[]⟩,.int .i64 0,.bool false] 118
  rwa [World.size_alloc] at this
 have hCX:=(Blk.new w #[.int .i64 c.u,.int .i64 c.g] 67).old (.cells #[.int .i64 0,.string ⟨#[]⟩,.int .i64 0,.bool false] 118);have hbX:=balloc (balloc (Below.refl w.heap.size w) (.cells #[.int .i64 c.u,.int .i64 c.g] 67)) (.cells #[.int .i64 0,.string ⟨#[]⟩,.int .i64 0,.bool false] 118);have HR:=Lib.hid (fun w1 (hb1:Below w.heap.size w w1)=>sread_any (h.keep hb1));rw [hd] at HR;have HS:=Lib.hid (fun w1 (hb1:Below w.heap.size w w1)=>path_any (h.wd.keep hb1) hk hN c path hp f);obtain⟨pc,-,pz⟩:=h.blk.facts;have HPC:=Lib.hid (fun w1 (hb1:Below w.heap.size w w1)=>show w1.cell? ⟨pf,0,none⟩=some (.pointer (some ⟨pw,0,none⟩)) from (hb1.cell (p:=⟨pf,0,none⟩) pz).trans (pc 0));have mixed:Tryz.prog.follows .mixedOrders=true:=by kernel_rfl
 generalize Y.fs.path c path f=rd at HS ⊢;unfold Fd.v at HS;clear h hk hd pc pz;go_enter Tryz.func50,Tryz.ntmps50;go_wp2_with fail;refine (HR.out _ hbX).mono ?_;rintro e w1 ⟨rfl,rfl⟩;generalize (w.alloc (.cells #[.int .i64 c.u,.int .i64 c.g] 67)).alloc (.cells #[.int .i64 0,.string ⟨#[]⟩,.int .i64 0,.bool false] 118)=W0 at hRX hCX hbX ⊢;have HRX:=Lib.hid hRX;have HBX:=Lib.hid hbX;have pc0:=HPC.out _ hbX;obtain⟨cc,-,cz⟩:=hCX.facts;clear hCX hbX hRX;go_wp2_with fail;refine wp_region_lex 7 mixed (by kernel_rfl) (show PanicOk _ from by repeat (first | exact pk_body | refine pk_then ?_ | refine pk_block ?_ | refine pk_scope ?_)) ?_;simp only [List.take_succ_cons,List.take_zero,List.drop_succ_cons,List.drop_zero]
 repeat still_step
 refine wpStill_nil ?_;go_wp2_with fail;refine (HS.out _ HBX.out.drew).mono ?_;rintro e w1 ⟨rfl,hb1⟩;have hRY:=HRX.out.drew.keep hb1;have HRY:=Lib.hid hRY;have HBY:=Lib.hid (HBX.out.drew.trans (hb1.mono HBX.out.size));obtain⟨rc,rf,rz⟩:=hRY.facts;clear hb1 hRY;go_wp2_with fail;exact bodyPost_ret (sfind_results HRY.out.set4 rfl rfl) rfl ⟨rfl,below_set4 HBY.out (Nat.le_succ _)⟩
structure Calm (Y:Sy):Prop where
 plan:Y.plan=[]
 dead:Y.dead=false
 now:Y.now=0
 c0:0≤Y.count
theorem Calm.change (h:Calm Y):Y.change=({Y with count:=Y.count+1},0):=change_none h.dead (fun x hx=>by rw [h.plan] at hx;cases hx)
theorem Calm.op (h:Calm Y) (g:Fs→Int→Fs×Int×Int):Y.op g=({Y with count:=Y.count+1,fs:=(g Y.fs 0).1},(g Y.fs 0).2):=by
 unfold Sy.op;rw [h.change,h.now];rfl
theorem Calm.opE (h:Calm Y) (g:Fs→Int→Fs×Int):Y.opE g=({Y with count:=Y.count+1,fs:=(g Y.fs 0).1},(g Y.fs 0).2):=by
 unfold Sy.opE;rw [h.change,h.now];rfl
theorem Calm.next (h:Calm Y) (S:Fs):Calm {Y with count:=Y.count+1,fs:=S}:=⟨h.plan,h.dead,h.now,by have:=h.c0;show 0≤Y.count+1;omega⟩
theorem Calm.fs (h:Calm Y) (S:Fs):Calm {Y with fs:=S}:=⟨h.plan,h.dead,h.now,h.c0⟩
def Became (w w':World) (pf pw:Nat) (R:Rp) (pv:Value) (Y:Sy) (S:Fs) (d:Int):Prop:=
 ∃ R' Z,SyAt w' pf pw R' pv Z∧Z.fs=S∧Calm Z∧Z.count≤Y.count+d∧Stp (R.Y pf pw) (R'.Y pf pw) w w'
theorem Became.same (h:SyAt w pf pw R pv Y) (hc:Calm Y) (hb:Below w.heap.size w w'):Became w w' pf pw R pv Y Y.fs 0:=⟨R,Y,h.keep hb,rfl,hc,by omega,Stp.of_below hb⟩
theorem Became.mono {S:Fs} {d d':Int} (h:Became w w' pf pw R pv Y S d) (hd:d≤d'):Became w w' pf pw R pv Y S d':=by
 obtain⟨R',Z,h1,h2,h3,h4,h5⟩:=h;exact⟨R',Z,h1,h2,h3,by omega,h5⟩
theorem Blk.sy {B:Nat} {vs:Array Value} {T:TypeId} (hb:Blk w B vs T) (h:SyAt w pf pw R pv Y) {F':Nat→Prop} (hs:Stp (R.Y pf pw) F' w w') (hT:wdKind (.cells #[] T (0,0))=false) (hT2:T≠54):Blk w' B vs T:=
 hb.mod hs.mod (fun hk=>by
  rcases hk with rfl | hk
  ·have h1:=h.blk;unfold Blk at hb h1;rw [hb] at h1;injection h1 with h1;injection h1 with h1 h2;exact hT2 h2
  ·obtain ⟨o,ho,hd⟩:=h.wd.kind hk;unfold Blk at hb;rw [hb] at ho;injection ho with ho;subst ho;rw [show wdKind (.cells vs T (0,0))=wdKind (.cells #[] T (0,0)) from rfl,hT] at hd
   cases hd)
end
end
end Go.Proofs.YtihdbncoijhihaaGreat
