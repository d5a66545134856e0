import Derived.Shelf.Abstract
import Derived.Shelf.RegionOpen
import Derived.OwnWalkIn
import Derived.TacticsInMore
import Derived.LoopNIn
import Derived.LoopIn
import Derived.StillTail
import Derived.StillTactics
import Derived.RangeFuncNested
import Derived.WalkKit
import Derived.Test.YtihdbncoijhihaaGreatDoorSN9
import Derived.Test.YtihdbncoijhihaaGreatDoorSN8
import Derived.Test.YtihdbncoijhihaaGreatDoorSN4
import Derived.Test.YtihdbncoijhihaaGreatDoorSN5
import Derived.Test.YtihdbncoijhihaaGreatDoorSN2
set_option linter.unusedVariables false
set_option linter.unusedSimpArgs false
set_option maxRecDepth 100000
set_option maxHeartbeats 16000000
namespace Go.Proofs.YtihdbncoijhihaaGreatDoor
section
open Go.RowKit
theorem Blk.row {w:World} {B:Nat} {xs vs:List Value} {T:TypeId} (h:Blk w B xs.toArray T) (hl:xs.length=vs.length):Blk (putRow w B 0 vs) B vs.toArray T:=by
 have h1:=putRow_blk vs w 0 _ h;have h2:=setAll_head vs xs [] hl;rw [List.append_nil,List.append_nil] at h2;rw [List.toList_toArray,h2] at h1;exact h1
theorem Blk.set12 {w:World} {B:Nat} {x0 x1 x2 x3 x4 x5 x6 x7 x8 x9 x10 x11 v0 v1 v2 v3 v4 v5 v6 v7 v8 v9 v10 v11:Value} {T:TypeId} (h:Blk w B #[x0,x1,x2,x3,x4,x5,x6,x7,x8,x9,x10,x11] T):Blk ((((((((((((w.setCell ⟨B,0,none⟩ v0).setCell ⟨B,1,none⟩ v1).setCell ⟨B,2,none⟩ v2).setCell ⟨B,3,none⟩ v3).setCell ⟨B,4,none⟩ v4).setCell ⟨B,5,none⟩ v5).setCell ⟨B,6,none⟩ v6).setCell ⟨B,7,none⟩ v7).setCell ⟨B,8,none⟩ v8).setCell ⟨B,9,none⟩ v9).setCell ⟨B,10,none⟩ v10).setCell ⟨B,11,none⟩ v11) B #[v0,v1,v2,v3,v4,v5,v6,v7,v8,v9,v10,v11] T:=
 Blk.row (xs:=[x0,x1,x2,x3,x4,x5,x6,x7,x8,x9,x10,x11]) (vs:=[v0,v1,v2,v3,v4,v5,v6,v7,v8,v9,v10,v11]) h rfl
theorem below_row {N:Nat} {w0:World} {B:Nat} (hB:N≤B):∀ (vs:List Value) (w:World) (o:Nat),Below N w0 w→Below N w0 (putRow w B o vs)
 | [],_,_,h=>h
 | v :: vs,w,o,h=>by unfold putRow;exact below_row hB vs _ _ (h.setCell hB v)
theorem below_set12 {N:Nat} {w0 w:World} {B:Nat} {v0 v1 v2 v3 v4 v5 v6 v7 v8 v9 v10 v11:Value} (h:Below N w0 w) (hB:N≤B):Below N w0 ((((((((((((w.setCell ⟨B,0,none⟩ v0).setCell ⟨B,1,none⟩ v1).setCell ⟨B,2,none⟩ v2).setCell ⟨B,3,none⟩ v3).setCell ⟨B,4,none⟩ v4).setCell ⟨B,5,none⟩ v5).setCell ⟨B,6,none⟩ v6).setCell ⟨B,7,none⟩ v7).setCell ⟨B,8,none⟩ v8).setCell ⟨B,9,none⟩ v9).setCell ⟨B,10,none⟩ v10).setCell ⟨B,11,none⟩ v11):=
 below_row hB [v0,v1,v2,v3,v4,v5,v6,v7,v8,v9,v10,v11] w 0 h
theorem Blk.cells12 {w:World} {B:Nat} {x0 x1 x2 x3 x4 x5 x6 x7 x8 x9 x10 x11:Value} {T:TypeId} (h:Blk w B #[x0,x1,x2,x3,x4,x5,x6,x7,x8,x9,x10,x11] T) :
  w.cell? ⟨B,0,none⟩=some (x0)∧w.cell? ⟨B,1,none⟩=some (x1)∧w.cell? ⟨B,2,none⟩=some (x2)∧w.cell? ⟨B,3,none⟩=some (x3)∧w.cell? ⟨B,4,none⟩=some (x4)∧w.cell? ⟨B,5,none⟩=some (x5)∧w.cell? ⟨B,6,none⟩=some (x6)∧w.cell? ⟨B,7,none⟩=some (x7)∧w.cell? ⟨B,8,none⟩=some (x8)∧w.cell? ⟨B,9,none⟩=some (x9)∧w.cell? ⟨B,10,none⟩=some (x10)∧w.cell? ⟨B,11,none⟩=some (x11):=
 ⟨h.cell 0,h.cell 1,h.cell 2,h.cell 3,h.cell 4,h.cell 5,h.cell 6,h.cell 7,h.cell 8,h.cell 9,h.cell 10,h.cell 11⟩
theorem place_results {tmps:Array Value} {W:World} {B:Nat} {a:An} {ea:Option Addr} {el ec:Nat} {e:Int} (hb:Blk W B #[.int .i64 a.no,.int .i64 a.dev,.int .i64 a.kind,.int .i64 a.mode,.int .i64 a.uid,.int .i64 a.gid,.int .i64 a.mtime,.int .i64 a.ctime,.int .i64 a.links,.int .i64 a.up,.string a.data,.slice ea el ec] 109)
  (h8:tmps.getD 8 undef=.pointer (some ⟨B,0,none⟩)) (h9:tmps.getD 9 undef=.int .i64 e):(results Tryz.f283 tmps).run Tryz.prog W=.ok (.tuple #[a.v ea el ec,.int .i64 e]) W:=by
 obtain⟨q0,q1,q2,q3,q4,q5,q6,q7,q8,q9,q10,q11⟩:=hb.cells12;rw [Array.getD_eq_getD_getElem?] at h8 h9;simp [results,Tryz.results283,go_sem,An.v,h8,h9,q0,q1,q2,q3,q4,q5,q6,q7,q8,q9,q10,q11]
section
variable {w w':World} {pw:Nat} {R:Rp} {S:Fs}
theorem place_none (h:WdAt w pw R S) {N:Nat} (hk:FsOk S N) (c:Cr) (dir:Int) (s:ByteArray) (hs:s.size≤9223372036854775807) (hg:S.get dir=none) :
  Calls Tryz.prog 283 #[.pointer (some ⟨pw,0,none⟩),.agg #[.int .i64 c.u,.int .i64 c.g],.int .i64 dir,.string s] w fun e w'=>e=.returned (.tuple #[an0.v none 0 0,.int .i64 5])∧Below w.heap.size w w':=by
 have HDv:=Lib.hid (fun w1 (hb1:Below w.heap.size w w1)=>wdevs_any (h.keep hb1) hk.d1);have hnz:=hk.d1;generalize S.ds.length=n at HDv hnz;have hz:((n:Int) == 0)=false:=by simp;omega
 have HG:=Lib.hid (fun w1 (hb1:Below w.heap.size w w1)=>wget_no (h.keep hb1) hg);have HCk:=Lib.hid (fun w=>ncheck_any s w hs);obtain⟨pc,-,pz⟩:=h.blk.facts;unfold An.v an0 at HG;generalize checkE s=ce at HCk;clear h hk hg;go_enter Tryz.func283,Tryz.ntmps283;go_wp2_with fail;refine (HDv.out _ (balloc (balloc (Below.refl _ _) _) _)).mono ?_;rintro e w1 ⟨rfl,rfl⟩;go_wp2_with fail;refine (HG.out _ (balloc (balloc (Below.refl _ _) _) _)).mono ?_;rintro e w1 ⟨rfl,hb1⟩;have hb2:=bnext (balloc (balloc (Below.refl w.heap.size w) _) _) hb1;have hR:Blk w1 (w.heap.size+1) #[.int .i64 0,.int .i64 0,.int .i64 0,.int .i64 0,.int .i64 0,.int .i64 0,.int .i64 0,.int .i64 0,.int .i64 0,.int .i64 0,.string ⟨#[]⟩,.slice none 0 0] 109:=by
  have:=((Blk.new (w.alloc (.cells #[.int .i64 c.u,.int .i64 c.g] 27)) #[.int .i64 0,.int .i64 0,.int .i64 0,.int .i64 0,.int .i64 0,.int .i64 0,.int .i64 0,.int .i64 0,.int .i64 0,.int .i64 0,.string ⟨#[]⟩,.slice none 0 0] 109).keep hb1)
  rwa [World.size_alloc] at this
 have hRX:=hR.old (.cells #[.int .i64 0,.int .i64 0,.int .i64 0,.int .i64 0,.int .i64 0,.int .i64 0,.int .i64 0,.int .i64 0,.int .i64 0,.int .i64 0,.string ByteArray.empty,.slice none 0 0] 109);have hbX:=balloc hb2 (.cells #[.int .i64 0,.int .i64 0,.int .i64 0,.int .i64 0,.int .i64 0,.int .i64 0,.int .i64 0,.int .i64 0,.int .i64 0,.int .i64 0,.string ByteArray.empty,.slice none 0 0] 109);clear hR hb1 hb2 pc;go_wp2_with fail;generalize w1.alloc (.cells #[.int .i64 0,.int .i64 0,.int .i64 0,.int .i64 0,.int .i64 0,.int .i64 0,.int .i64 0,.int .i64 0,.int .i64 0,.int .i64 0,.string ByteArray.empty,.slice none 0 0] 109)=X at hRX hbX ⊢;refine (HCk.out _).mono ?_;rintro e w2 ⟨rfl,rfl⟩;have HRX:=Lib.hid hRX;have HBX:=Lib.hid hbX;obtain⟨rc,rf,rz⟩:=hRX.facts;clear hRX hbX;go_wp2_with fail;exact bodyPost_ret (place_results (a:=an0) HRX.out.set12 rfl rfl) rfl ⟨rfl,below_set12 HBX.out (Nat.le_succ _)⟩
theorem wget_fix (h:WdAt w pw R S) {k:Int} {a:An} (hg:S.get k=some a):∃ ea el ec,EntsAt w ea el ec a.ents∧∀ w1,Below w.heap.size w w1→
  Calls Tryz.prog 98 #[.pointer (some ⟨R.pt,0,none⟩),.int .i64 k] w1 fun e w'=>e=.returned (.tuple #[a.v ea el ec,.bool true])∧Below w1.heap.size w1 w':=by
 obtain⟨g,-,rfl,hf,he⟩:=G_of h hg;exact⟨g.ea,g.el,g.ec,he,fun w1 hb1=>get_yes g.nd k w1 R.pt R.pm S.last _ R.clk (h.keep hb1).tab hf⟩
theorem place_some (h:WdAt w pw R S) {N:Nat} (hk:FsOk S N) (c:Cr) (dir:Int) (s:ByteArray) (hs:s.size≤9223372036854775807) (d:An) (hg:S.get dir=some d) :
  Calls Tryz.prog 283 #[.pointer (some ⟨pw,0,none⟩),.agg #[.int .i64 c.u,.int .i64 c.g],.int .i64 dir,.string s] w fun e w'=>((S.placeE c dir s≠0∧e=.returned (.tuple #[an0.v none 0 0,.int .i64 (S.placeE c dir s)]))∨(S.placeE c dir s=0∧∃ ea el ec,e=.returned (.tuple #[d.v ea el ec,.int .i64 0])∧EntsAt w ea el ec d.ents))∧Below w.heap.size w w':=by
 have HDv:=Lib.hid (fun w1 (hb1:Below w.heap.size w w1)=>wdevs_any (h.keep hb1) hk.d1);have hnz:=hk.d1;generalize S.ds.length=n at HDv hnz;have hz:((n:Int) == 0)=false:=by simp;omega
 obtain⟨ea,el,ec,he,hG⟩:=wget_fix h hg;have HE:=Lib.hid he;have HG:=Lib.hid hG;unfold An.v at HG;have HCk:=Lib.hid (fun w=>ncheck_any s w hs);have HPl:=Lib.hid (show S.placeE c dir s=if d.kind≠1 then 9 else if checkE s≠0 then checkE s else if d.may c 3=false then 6 else 0 by unfold Fs.placeE;rw [hg]);have HNd:=Lib.hid (fun w=>pnode_any c d ea el ec 3 w);unfold Cr.v An.v at HNd;obtain⟨pc,-,pz⟩:=h.blk.facts;generalize checkE s=ce at HCk HPl;generalize S.placeE c dir s=pe at HPl ⊢;generalize d.may c 3=my at HPl HNd;clear h hk hg he hG;go_enter Tryz.func283,Tryz.ntmps283;go_wp2_with fail;refine (HDv.out _ (balloc (balloc (Below.refl _ _) _) _)).mono ?_;rintro e w1 ⟨rfl,rfl⟩;go_wp2_with fail;refine (HG.out _ (balloc (balloc (Below.refl _ _) _) _)).mono ?_;rintro e w1 ⟨rfl,hb1⟩;have hb2:=bnext (balloc (balloc (Below.refl w.heap.size w) _) _) hb1;have hR:Blk w1 (w.heap.size+1) #[.int .i64 0,.int .i64 0,.int .i64 0,.int .i64 0,.int .i64 0,.int .i64 0,.int .i64 0,.int .i64 0,.int .i64 0,.int .i64 0,.string ⟨#[]⟩,.slice none 0 0] 109:=by
  have:=((Blk.new (w.alloc (.cells #[.int .i64 c.u,.int .i64 c.g] 27)) #[.int .i64 0,.int .i64 0,.int .i64 0,.int .i64 0,.int .i64 0,.int .i64 0,.int .i64 0,.int .i64 0,.int .i64 0,.int .i64 0,.string ⟨#[]⟩,.slice none 0 0] 109).keep hb1)
  rwa [World.size_alloc] at this
 have hCr:Blk w1 w.heap.size #[.int .i64 c.u,.int .i64 c.g] 27:=((Blk.new w #[.int .i64 c.u,.int .i64 c.g] 27).old (.cells #[.int .i64 0,.int .i64 0,.int .i64 0,.int .i64 0,.int .i64 0,.int .i64 0,.int .i64 0,.int .i64 0,.int .i64 0,.int .i64 0,.string ⟨#[]⟩,.slice none 0 0] 109)).keep hb1;have hRX:=hR.old (.cells #[.int .i64 d.no,.int .i64 d.dev,.int .i64 d.kind,.int .i64 d.mode,.int .i64 d.uid,.int .i64 d.gid,.int .i64 d.mtime,.int .i64 d.ctime,.int .i64 d.links,.int .i64 d.up,.string d.data,.slice ea el ec] 109);have hCX:=hCr.old (.cells #[.int .i64 d.no,.int .i64 d.dev,.int .i64 d.kind,.int .i64 d.mode,.int .i64 d.uid,.int .i64 d.gid,.int .i64 d.mtime,.int .i64 d.ctime,.int .i64 d.links,.int .i64 d.up,.string d.data,.slice ea el ec] 109);have hDX:=Blk.new w1 #[.int .i64 d.no,.int .i64 d.dev,.int .i64 d.kind,.int .i64 d.mode,.int .i64 d.uid,.int .i64 d.gid,.int .i64 d.mtime,.int .i64 d.ctime,.int .i64 d.links,.int .i64 d.up,.string d.data,.slice ea el ec] 109;have hbX:=balloc hb2 (.cells #[.int .i64 d.no,.int .i64 d.dev,.int .i64 d.kind,.int .i64 d.mode,.int .i64 d.uid,.int .i64 d.gid,.int .i64 d.mtime,.int .i64 d.ctime,.int .i64 d.links,.int .i64 d.up,.string d.data,.slice ea el ec] 109);clear hR hCr hb1 hb2 pc;go_wp2_with fail;generalize w1.alloc (.cells #[.int .i64 d.no,.int .i64 d.dev,.int .i64 d.kind,.int .i64 d.mode,.int .i64 d.uid,.int .i64 d.gid,.int .i64 d.mtime,.int .i64 d.ctime,.int .i64 d.links,.int .i64 d.up,.string d.data,.slice ea el ec] 109)=X at hRX hCX hDX hbX ⊢;refine (HCk.out _).mono ?_;rintro e w2 ⟨rfl,rfl⟩;have HRX:=Lib.hid hRX;have HBX:=Lib.hid hbX;have HDX:=Lib.hid hDX;have HCX:=Lib.hid hCX;obtain⟨rc,rf,rz⟩:=hRX.facts;obtain⟨dc,df,dz⟩:=hDX.facts;obtain⟨cc,-,-⟩:=hCX.facts;clear hRX hbX hDX hCX;by_cases h1:d.kind=1
 ·have q1:(d.kind == 1)=true:=by simpa using h1
  have q2:(d.kind != 1)=false:=by simpa using h1
  by_cases h2:ce=0
  ·have q3:(ce != 0)=false:=by simpa using h2
   cases my
   ·have HE6:=Lib.hid (show pe=6 by rw [HPl.out];simp [h1,h2]);clear h1 h2;go_wp2_with fail;refine (HNd.out _).mono ?_;rintro e w5 ⟨rfl,hb5⟩;have hRX5:=HRX.out.keep hb5;have hBX5:=HBX.out.trans (hb5.mono HBX.out.size);have HRX5:=Lib.hid hRX5;have HBX5:=Lib.hid hBX5;clear rc rf rz dc df dz cc;obtain⟨rc,rf,rz⟩:=hRX5.facts;clear hRX5 hBX5 hb5;go_wp2_with fail;exact bodyPost_ret (place_results (a:=an0) HRX5.out.set12 rfl rfl) rfl ⟨.inl ⟨by rw [HE6.out];decide,by rw [HE6.out]⟩,below_set12 HBX5.out (Nat.le_succ _)⟩
   ·have HE0:=Lib.hid (show pe=0 by rw [HPl.out];simp [h1,h2]);clear h1 h2;go_wp2_with fail;refine (HNd.out _).mono ?_;rintro e w5 ⟨rfl,hb5⟩;have hRX5:=HRX.out.keep hb5;have hDX5:=HDX.out.keep hb5;have hBX5:=HBX.out.trans (hb5.mono HBX.out.size);have HRX5:=Lib.hid hRX5;have HBX5:=Lib.hid hBX5;clear rc rf rz dc df dz cc;obtain⟨rc,rf,rz⟩:=hRX5.facts;obtain⟨dc,-,-⟩:=hDX5.facts;clear hRX5 hBX5 hb5 hDX5;go_wp2_with fail;exact bodyPost_ret (place_results (a:=d) (ea:=ea) (el:=el) (ec:=ec) HRX5.out.set12 rfl rfl) rfl ⟨.inr ⟨HE0.out,ea,el,ec,rfl,HE.out⟩,below_set12 HBX5.out (Nat.le_succ _)⟩
  ·have q3:(ce != 0)=true:=by simpa using h2
   have HEc:=Lib.hid (show pe=ce∧ce≠0 by refine ⟨?_,h2⟩;rw [HPl.out];simp [h1,h2]);clear h1 h2;go_wp2_with fail;exact bodyPost_ret (place_results (a:=an0) HRX.out.set12 rfl rfl) rfl ⟨.inl ⟨by rw [HEc.out.1];exact HEc.out.2,by rw [HEc.out.1]⟩,below_set12 HBX.out (Nat.le_succ _)⟩
 ·have q2:(d.kind != 1)=true:=by simpa using h1
  have HE9:=Lib.hid (show pe=9 by rw [HPl.out];simp [h1]);clear h1;go_wp2_with fail;exact bodyPost_ret (place_results (a:=an0) HRX.out.set12 rfl rfl) rfl ⟨.inl ⟨by rw [HE9.out];decide,by rw [HE9.out]⟩,below_set12 HBX.out (Nat.le_succ _)⟩
end
end
section
open Go.RowKit
section
variable {w w':World} {pf:Nat} {R:Rf} {S:Fs}
theorem rat_any (h:RfAt w pf R S) (no:Int) :
  Calls Tryz.prog 113 #[.pointer (some ⟨pf,0,none⟩),.int .i64 no] w fun e w'=>e=.returned (.int .i64 (placeN R.G no))∧Below w.heap.size w w':=by
 have HW:=Lib.hid h;obtain⟨na,nc,hnv,hn1,hn2⟩:=h.nform;have HNv:=Lib.hid hnv;have HY:=Lib.hid (fun i (hi:i<R.G.length)=>placeN_yes (G:=R.G) (no:=no) hi);have HN:=Lib.hid (placeN_no (G:=R.G) (no:=no));generalize placeN R.G no=out at HY HN ⊢;obtain⟨n,hn⟩:∃ n,R.G.length=n:=⟨_,rfl⟩;have HNn:=Lib.hid hn;rw [hn] at hnv hn1;obtain⟨pc,-,pz⟩:=h.blk.facts;rw [hnv] at pc;clear h hnv hn;go_enter Tryz.func113,Tryz.ntmps113;go_wp2_with fail
 go_loopw [5] (fun t5 wr=>∃ k:Nat,k≤n∧t5=.int .i64 k∧(∀ j (hj:j<R.G.length),j<k→R.G[j].a.no≠no)∧Below w.heap.size w wr) (fun t5 _=>n - (intOf t5).toNat)
 case atStart=>exact ⟨0,Nat.zero_le _,rfl,fun j _ h=>absurd h (Nat.not_lt_zero _),Below.refl _ _⟩
 case round=>
  obtain⟨k,hk,rfl,hno,hb⟩:=hrel;have HNo:=Lib.hid hno;have HB:=Lib.hid hb;have pc2:=fun i=>(hb.cell (p:=⟨pf,i,none⟩) pz).trans (pc i);clear hno;by_cases hlt:k<n
  ·have hkl:k<R.G.length:=by rw [HNn.out];exact hlt
   obtain⟨g,cap,hnv,-,-,hg,hc,-,-⟩:=(HW.out.keep hb).nodeF (by omega);have he:=HNv.out.symm.trans hnv;injection he with he1 he2 he3;subst he1;have c0:=(hc k hkl).c0;have HYk:=Lib.hid (HY.out k hkl);clear hc hnv hb he2 he3;by_cases hq:R.G[k].a.no=no
   ·have HR:=Lib.hid (HYk.out hq (fun j hj hjk=>HNo.out j hj hjk));have hqb:(R.G[k].a.no == no)=true:=by simpa using hq
    generalize R.G[k].a.no=x at c0 hqb;clear hq;go_wp2_with fail;go_ret;exact⟨by rw [HR.out];rfl,HB.out⟩
   ·have hqb:(R.G[k].a.no == no)=false:=by simpa using hq
    have HNo2:=Lib.hid (show ∀ j (hj:j<R.G.length),j<k+1→R.G[j].a.no≠no from fun j hj hjk=>by
     by_cases e:j=k
     ·subst e;exact hq
     ·exact HNo.out j hj (by omega))
    generalize R.G[k].a.no=x at c0 hqb;clear hq;go_wp2_with fail;go_roundw
    case rel=>exact ⟨k+1,by omega,by go_num,HNo2.out,HB.out⟩
    case measure=>simp [intOf];omega
  ·obtain rfl:k=n:=by omega
   have HR:=Lib.hid (HN.out (fun j hj=>HNo.out j hj (by rw [←HNn.out];exact hj)));clear hb;go_wp2_with fail;go_ret;exact⟨by rw [HR.out];rfl,HB.out⟩
theorem rget_results {tmps:Array Value} {W:World} {B:Nat} {a:An} {ea:Option Addr} {el ec:Nat} (hb:Blk W B #[.int .i64 a.no,.int .i64 a.dev,.int .i64 a.kind,.int .i64 a.mode,.int .i64 a.uid,.int .i64 a.gid,.int .i64 a.mtime,.int .i64 a.ctime,.int .i64 a.links,.int .i64 a.up,.string a.data,.slice ea el ec] 109) (h4:tmps.getD 4 undef=.pointer (some ⟨B,0,none⟩)) :
  (results Tryz.f46 tmps).run Tryz.prog W=.ok (a.v ea el ec) W:=by
 obtain⟨q0,q1,q2,q3,q4,q5,q6,q7,q8,q9,q10,q11⟩:=hb.cells12;rw [Array.getD_eq_getD_getElem?] at h4;simp [results,Tryz.results46,go_sem,h4,q0,q1,q2,q3,q4,q5,q6,q7,q8,q9,q10,q11,An.v]
theorem rget_at (h:RfAt w pf R S) {k:Int} {i:Nat} (hi:i<R.G.length) (hp:placeN R.G k=i) :
  Calls Tryz.prog 46 #[.pointer (some ⟨pf,0,none⟩),.int .i64 k] w fun e w'=>e=.returned (R.G[i].a.v R.G[i].ea R.G[i].el R.G[i].ec)∧Below w.heap.size w w':=by
 have HAt:=Lib.hid (rat_any (h.keep ((Below.refl _ w).alloc (Nat.le_refl _) (.cells #[.int .i64 0,.int .i64 0,.int .i64 0,.int .i64 0,.int .i64 0,.int .i64 0,.int .i64 0,.int .i64 0,.int .i64 0,.int .i64 0,.string ByteArray.empty,.slice none 0 0] 109))) k);rw [hp] at HAt;obtain⟨na,nc,hnv,hn1,hn2⟩:=h.nform;obtain⟨g,cap,hnv,-,-,hgl,hc,-,-⟩:=h.nodeF (by omega);obtain⟨c0,c1,c2,c3,c4,c5,c6,c7,c8,c9,c10,c11⟩:=hc i hi;obtain⟨pc,-,pz⟩:=h.blk.facts;rw [hnv] at pc;obtain⟨n,hn⟩:∃ n,R.G.length=n:=⟨_,rfl⟩;rw [hn] at pc hn1;have hin:i<n:=by omega
 have hb0:=balloc (Below.refl w.heap.size w) (.cells #[.int .i64 0,.int .i64 0,.int .i64 0,.int .i64 0,.int .i64 0,.int .i64 0,.int .i64 0,.int .i64 0,.int .i64 0,.int .i64 0,.string ByteArray.empty,.slice none 0 0] 109);have hq0:=Blk.new w #[.int .i64 0,.int .i64 0,.int .i64 0,.int .i64 0,.int .i64 0,.int .i64 0,.int .i64 0,.int .i64 0,.int .i64 0,.int .i64 0,.string ByteArray.empty,.slice none 0 0] 109;unfold An.v;generalize R.G[i].a=a at *;generalize R.G[i].ea=ea at *;generalize R.G[i].el=el at *;generalize R.G[i].ec=ec at *;have HC:=Lib.hid (fun w1 (hb:Below w.heap.size w w1)=>And.intro (hb.cell (p:=⟨g,i*12,none⟩) hgl) (fun j=>hb.cell (p:=⟨g,i*12+j,none⟩) hgl));have HQ0:=Lib.hid hq0;have HB0:=Lib.hid hb0;clear h hnv hc hi hn hp hq0 hb0;go_enter Tryz.func46,Tryz.ntmps46;go_wp2_with fail;refine HAt.out.mono ?_;rintro e w1 ⟨rfl,hb1⟩;have hq1:=HQ0.out.keep hb1;have hb2:=bnext HB0.out hb1;have HQ1:=Lib.hid hq1;have HB2:=Lib.hid hb2;obtain⟨q0,qf,qz⟩:=hq1.facts;have pc2:=fun i=>(hb2.cell (p:=⟨pf,i,none⟩) pz).trans (pc i);obtain⟨d0,dd⟩:=HC.out w1 hb2;rw [←d0] at c0;rw [←dd 1] at c1;rw [←dd 2] at c2;rw [←dd 3] at c3;rw [←dd 4] at c4;rw [←dd 5] at c5;rw [←dd 6] at c6;rw [←dd 7] at c7;rw [←dd 8] at c8;rw [←dd 9] at c9;rw [←dd 10] at c10;rw [←dd 11] at c11;clear hq1 hb1 hb2 d0 dd pc;go_wp2_with fail;exact bodyPost_ret (rget_results (a:=a) (ea:=ea) (el:=el) (ec:=ec) HQ1.out.set12 rfl) rfl ⟨rfl,below_set12 HB2.out (Nat.le_refl _)⟩
theorem rget_fix (h:RfAt w pf R S) {k:Int} {a:An} (hg:S.get k=some a):∃ ea el ec,EntsAt w ea el ec a.ents∧∀ w1,Below w.heap.size w w1→
  Calls Tryz.prog 46 #[.pointer (some ⟨pf,0,none⟩),.int .i64 k] w1 fun e w'=>e=.returned (a.v ea el ec)∧Below w1.heap.size w1 w':=by
 rcases place_get h k with ⟨i,hi,hp,hg2,-⟩|⟨-,hg2⟩
 ·rw [hg] at hg2;injection hg2 with hg2;subst hg2;exact⟨R.G[i].ea,R.G[i].el,R.G[i].ec,h.ents _ (List.getElem_mem hi),fun w1 hb=>rget_at (h.keep hb) hi hp⟩
 ·rw [hg] at hg2;cases hg2
theorem rget_yes (h:RfAt w pf R S) {k:Int} {a:An} (hg:S.get k=some a):∃ ea el ec,EntsAt w ea el ec a.ents∧
  Calls Tryz.prog 46 #[.pointer (some ⟨pf,0,none⟩),.int .i64 k] w fun e w'=>e=.returned (a.v ea el ec)∧Below w.heap.size w w':=by
 obtain⟨ea,el,ec,he,hG⟩:=rget_fix h hg;exact⟨ea,el,ec,he,hG w (Below.refl _ _)⟩
theorem rget_no (h:RfAt w pf R S) {k:Int} (hg:S.get k=none) :
  Calls Tryz.prog 46 #[.pointer (some ⟨pf,0,none⟩),.int .i64 k] w fun e w'=>e=.returned (an0.v none 0 0)∧Below w.heap.size w w':=by
 rcases place_get h k with ⟨i,hi,hp,hg2,hno⟩|⟨hp,-⟩
 ·rw [hg] at hg2;cases hg2
 ·have HAt:=Lib.hid (rat_any (h.keep ((Below.refl _ w).alloc (Nat.le_refl _) (.cells #[.int .i64 0,.int .i64 0,.int .i64 0,.int .i64 0,.int .i64 0,.int .i64 0,.int .i64 0,.int .i64 0,.int .i64 0,.int .i64 0,.string ByteArray.empty,.slice none 0 0] 109))) k);rw [hp] at HAt;have HB0:=Lib.hid (balloc (Below.refl w.heap.size w) (.cells #[.int .i64 0,.int .i64 0,.int .i64 0,.int .i64 0,.int .i64 0,.int .i64 0,.int .i64 0,.int .i64 0,.int .i64 0,.int .i64 0,.string ByteArray.empty,.slice none 0 0] 109));have HQ0:=Lib.hid (Blk.new w #[.int .i64 0,.int .i64 0,.int .i64 0,.int .i64 0,.int .i64 0,.int .i64 0,.int .i64 0,.int .i64 0,.int .i64 0,.int .i64 0,.string ByteArray.empty,.slice none 0 0] 109);clear h hg hp;go_enter Tryz.func46,Tryz.ntmps46;go_wp2_with fail;refine HAt.out.mono ?_;rintro e w1 ⟨rfl,hb1⟩;have hq1:=HQ0.out.keep hb1;have HQ1:=Lib.hid hq1;have HB2:=Lib.hid (bnext HB0.out hb1);obtain⟨q0,qf,qz⟩:=hq1.facts;clear hq1 hb1;go_wp2_with fail;exact bodyPost_ret (rget_results (a:=an0) (ea:=none) (el:=0) (ec:=0) HQ1.out.set12 rfl) rfl ⟨rfl,below_set12 HB2.out (Nat.le_refl _)⟩
end
end
section
open Go.RowKit
theorem spl_app (c:UInt8) (a m:List UInt8):spl c (a ++ c :: m)=spl c a ++ spl c m:=by
 refine snoc_ind (P:=fun m=>spl c (a ++ c :: m)=spl c a ++ spl c m) ?_ (fun m x ih=>?_) m
 ·rw [spl_snoc,splStep,if_pos rfl];rfl
 ·rw [show a ++ c :: (m ++ [x])=(a ++ c :: m) ++ [x] by simp,spl_snoc,ih,spl_snoc];have h0:=(spl_len c m).1;unfold splStep
  split
  ·simp
  ·rw [List.length_append,List.getD_eq_getElem?_getD,List.getD_eq_getElem?_getD,List.getElem?_append_right (by omega),List.set_append_right _ _ (by omega),show (spl c a).length+(spl c m).length - 1 - (spl c a).length=(spl c m).length - 1 by omega]
theorem spl_none (c:UInt8) (l:List UInt8):c∉l→spl c l=[l]:=by
 refine snoc_ind (P:=fun l=>c∉l→spl c l=[l]) (fun _=>rfl) (fun l x ih h=>?_) l;rw [List.mem_append,List.mem_singleton,not_or] at h;rw [spl_snoc,ih h.1,splStep,if_neg (fun e=>h.2 e.symm)];rfl
theorem extract_list (s:ByteArray) (a b:Nat):(s.extract a b).data.toList=(s.data.toList.take b).drop a:=by
 rw [Lib.extract_data,List.drop_take]
end
section
open Go.RowKit
section
variable {S:Fs} {c:Cr} {f must:Bool} {h:Nat} {at':Int} {p:List UInt8} {l:List (List UInt8)} {n:An}
theorem seek_nil:S.seekH c f h at' must []=(⟨0,ByteArray.empty,at',true⟩,0):=by cases h <;> rfl
theorem seek_err (he:(S.step c at' p).2≠0):S.seekH c f h at' must (p :: l)=(fd0,(S.step c at' p).2):=by
 cases h
 ·show S.seekL c f none (p :: l) at' must=_;rw [Fs.seekL];simp only;rw [if_pos he]
 ·show S.seekL c f (some _) (p :: l) at' must=_;rw [Fs.seekL];simp only;rw [if_pos he]
theorem seek_up (he:(S.step c at' p).2=0) (hp:p=[46,46]):S.seekH c f h at' must (p :: l)=S.seekH c f h (S.step c at' p).1 must l:=by
 cases h
 ·show S.seekL c f none (p :: l) at' must=_;rw [Fs.seekL];simp only;rw [if_neg (by simp [he]),if_pos hp];rfl
 ·show S.seekL c f (some _) (p :: l) at' must=_;rw [Fs.seekL];simp only;rw [if_neg (by simp [he]),if_pos hp];rfl
theorem seek_new (he:(S.step c at' p).2=0) (hp:p≠[46,46]) (hg:S.get (S.step c at' p).1=none) (hl:l=[]):S.seekH c f h at' must (p :: l)=(⟨at',str p,0,must⟩,0):=by
 cases h
 ·show S.seekL c f none (p :: l) at' must=_;rw [Fs.seekL];simp only;rw [if_neg (by simp [he]),if_neg hp,hg];simp only;rw [if_pos hl]
 ·show S.seekL c f (some _) (p :: l) at' must=_;rw [Fs.seekL];simp only;rw [if_neg (by simp [he]),if_neg hp,hg];simp only;rw [if_pos hl]
theorem seek_gone (he:(S.step c at' p).2=0) (hp:p≠[46,46]) (hg:S.get (S.step c at' p).1=none) (hl:l≠[]):S.seekH c f h at' must (p :: l)=(fd0,5):=by
 cases h
 ·show S.seekL c f none (p :: l) at' must=_;rw [Fs.seekL];simp only;rw [if_neg (by simp [he]),if_neg hp,hg];simp only;rw [if_neg hl]
 ·show S.seekL c f (some _) (p :: l) at' must=_;rw [Fs.seekL];simp only;rw [if_neg (by simp [he]),if_neg hp,hg];simp only;rw [if_neg hl]
theorem seek_loop (he:(S.step c at' p).2=0) (hp:p≠[46,46]) (hg:S.get (S.step c at' p).1=some n) (hk:n.kind=3∧(l≠[]∨must=true∨f=true)):S.seekH c f 0 at' must (p :: l)=(fd0,12):=by
 show S.seekL c f none (p :: l) at' must=_;rw [Fs.seekL];simp only;rw [if_neg (by simp [he]),if_neg hp,hg];simp only;rw [if_pos hk]
theorem seek_void (he:(S.step c at' p).2=0) (hp:p≠[46,46]) (hg:S.get (S.step c at' p).1=some n) (hk:n.kind=3∧(l≠[]∨must=true∨f=true)) (hd:n.data.data.toList=[]):S.seekH c f (h+1) at' must (p :: l)=(fd0,5):=by
 show S.seekL c f (some _) (p :: l) at' must=_;rw [Fs.seekL];simp only;rw [if_neg (by simp [he]),if_neg hp,hg];simp only;rw [if_pos hk,if_pos hd]
theorem seek_link (he:(S.step c at' p).2=0) (hp:p≠[46,46]) (hg:S.get (S.step c at' p).1=some n) (hk:n.kind=3∧(l≠[]∨must=true∨f=true)) (hd:n.data.data.toList≠[]) :
  S.seekH c f (h+1) at' must (p :: l)=S.seekH c f h (if n.data.data.toList.head? = some 47 then 1 else at') (if l=[] then must || slashB n.data.data.toList else must) (partsL n.data.data.toList ++ l):=by
 show S.seekL c f (some _) (p :: l) at' must=_;rw [Fs.seekL];simp only;rw [if_neg (by simp [he]),if_neg hp,hg];simp only;rw [if_pos hk,if_neg hd]
theorem seek_file (he:(S.step c at' p).2=0) (hp:p≠[46,46]) (hg:S.get (S.step c at' p).1=some n) (hk:¬ (n.kind=3∧(l≠[]∨must=true∨f=true))) (hd:n.kind≠1∧(l≠[]∨must=true)):S.seekH c f h at' must (p :: l)=(fd0,9):=by
 cases h
 ·show S.seekL c f none (p :: l) at' must=_;rw [Fs.seekL];simp only;rw [if_neg (by simp [he]),if_neg hp,hg];simp only;rw [if_neg hk,if_pos hd]
 ·show S.seekL c f (some _) (p :: l) at' must=_;rw [Fs.seekL];simp only;rw [if_neg (by simp [he]),if_neg hp,hg];simp only;rw [if_neg hk,if_pos hd]
theorem seek_last (he:(S.step c at' p).2=0) (hp:p≠[46,46]) (hg:S.get (S.step c at' p).1=some n) (hk:¬ (n.kind=3∧(l≠[]∨must=true∨f=true))) (hd:¬ (n.kind≠1∧(l≠[]∨must=true))) (hl:l=[]):S.seekH c f h at' must (p :: l)=(⟨at',str p,(S.step c at' p).1,must⟩,0):=by
 cases h
 ·show S.seekL c f none (p :: l) at' must=_;rw [Fs.seekL];simp only;rw [if_neg (by simp [he]),if_neg hp,hg];simp only;rw [if_neg hk,if_neg hd,if_pos hl]
 ·show S.seekL c f (some _) (p :: l) at' must=_;rw [Fs.seekL];simp only;rw [if_neg (by simp [he]),if_neg hp,hg];simp only;rw [if_neg hk,if_neg hd,if_pos hl]
theorem seek_on (he:(S.step c at' p).2=0) (hp:p≠[46,46]) (hg:S.get (S.step c at' p).1=some n) (hk:¬ (n.kind=3∧(l≠[]∨must=true∨f=true))) (hd:¬ (n.kind≠1∧(l≠[]∨must=true))) (hl:l≠[]):S.seekH c f h at' must (p :: l)=S.seekH c f h (S.step c at' p).1 must l:=by
 cases h
 ·show S.seekL c f none (p :: l) at' must=_;rw [Fs.seekL];simp only;rw [if_neg (by simp [he]),if_neg hp,hg];simp only;rw [if_neg hk,if_neg hd,if_neg hl];rfl
 ·show S.seekL c f (some _) (p :: l) at' must=_;rw [Fs.seekL];simp only;rw [if_neg (by simp [he]),if_neg hp,hg];simp only;rw [if_neg hk,if_neg hd,if_neg hl];rfl
end
theorem parts_len (l:List UInt8):(partsL l).length≤l.length+1:=Nat.le_trans (List.length_filter_le _ _) (spl_len 47 l).2
theorem parts_app (a b:List UInt8) (ha:∀ x∈a,x≠47):partsL (a ++ 47 :: b)=(if a=[]∨a=[46] then [] else [a]) ++ partsL b:=by
 unfold partsL;rw [spl_app,spl_none 47 a (fun h=>ha 47 h rfl),List.filter_append];congr 1;by_cases h1:a=[]
 ·subst h1;rfl
 ·by_cases h2:a=[46]
  ·subst h2;rfl
  ·rw [if_neg (by rintro (h | h);exact h1 h;exact h2 h)];have e1:(a == [])=false:=by simpa using h1
   have e2:(a == [46])=false:=by simpa using h2
   simp [h1,h2]
theorem parts_one (a:List UInt8) (ha:∀ x∈a,x≠47):partsL a=if a=[]∨a=[46] then [] else [a]:=by
 unfold partsL;rw [spl_none 47 a (fun h=>ha 47 h rfl)];by_cases h1:a=[]
 ·subst h1;rfl
 ·by_cases h2:a=[46]
  ·subst h2;rfl
  ·rw [if_neg (by rintro (h | h);exact h1 h;exact h2 h)];have e1:(a == [])=false:=by simpa using h1
   have e2:(a == [46])=false:=by simpa using h2
   simp [h1,h2]
end
section
open Go.RowKit Go.Shelf
attribute [local go_sem] Oper.semAt_some
def PSt (l:List UInt8) (pre:List (List UInt8)) (fr k:Nat):Prop:=
 fr≤l.length+1∧((k≤l.length∧fr≤k∧partsL l=pre ++ partsL (l.drop fr)∧∀ x∈(l.take k).drop fr,x≠47)∨(k=l.length+1∧partsL l=pre))
theorem pst_start (l:List UInt8):PSt l [] 0 0:=⟨by omega,.inl ⟨by omega,Nat.le_refl _,by simp,by simp⟩⟩
theorem pst_skip {l:List UInt8} {pre:List (List UInt8)} {fr k:Nat} (h:PSt l pre fr k) (hk:k<l.length) (hx:l[k]≠47):PSt l pre fr (k+1):=by
 obtain⟨h1,⟨h2,h3,h4,h5⟩|⟨h2,-⟩⟩:=h
 ·refine ⟨h1,.inl ⟨hk,by omega,h4,fun x hxm=>?_⟩⟩;rw [List.take_succ_eq_append_getElem hk,List.drop_append_of_le_length (by rw [List.length_take];omega)] at hxm;rcases List.mem_append.1 hxm with hxm | hxm
  ·exact h5 x hxm
  ·rw [List.mem_singleton] at hxm;subst hxm;exact hx
 ·omega
theorem pst_end {l:List UInt8} {pre:List (List UInt8)} {fr k:Nat} (h:PSt l pre fr k) (hk:l.length<k):partsL l=pre:=by
 obtain⟨-,⟨h2,-⟩|⟨-,h3⟩⟩:=h
 ·omega
 ·exact h3
def segP (l:List UInt8) (fr k:Nat):List UInt8:=(l.take k).drop fr
theorem pst_split {l:List UInt8} {fr k:Nat} (hk:k<l.length) (hf:fr≤k) (hx:l[k]=47):l.drop fr=segP l fr k ++ 47 :: l.drop (k+1):=by
 unfold segP
 conv=>lhs;rw [←List.take_append_drop k l]
 rw [List.drop_append_of_le_length (by rw [List.length_take];omega),List.drop_eq_getElem_cons hk,hx]
theorem pst_cut {l:List UInt8} {pre:List (List UInt8)} {fr k:Nat} (h:PSt l pre fr k) (hk:k≤l.length) (hx:∀ (h:k<l.length),l[k]=47) :
  fr≤k∧partsL l=pre ++ ((if segP l fr k=[]∨segP l fr k=[46] then [] else [segP l fr k]) ++ (if k<l.length then partsL (l.drop (k+1)) else []))∧
   ∀ pre',(partsL l=pre' ++ (if k<l.length then partsL (l.drop (k+1)) else []))→PSt l pre' (k+1) (k+1):=by
 obtain⟨h1,⟨h2,h3,h4,h5⟩|⟨h2,-⟩⟩:=h
 ·by_cases hlt:k<l.length
  ·refine ⟨h3,?_,fun pre' hp=>⟨by omega,.inl ⟨by omega,Nat.le_refl _,?_,?_⟩⟩⟩
   ·rw [h4,pst_split hlt h3 (hx hlt),parts_app (segP l fr k) _ h5,if_pos hlt]
   ·rw [if_pos hlt] at hp;exact hp
   ·rw [List.drop_eq_nil_of_le (by rw [List.length_take];omega)];simp
  ·refine ⟨h3,?_,fun pre' hp=>⟨by omega,.inr ⟨by omega,?_⟩⟩⟩
   ·obtain rfl:k=l.length:=by omega
    rw [h4,if_neg hlt,List.append_nil];have:l.drop fr=segP l fr l.length:=by unfold segP;rw [List.take_length]
    rw [this,parts_one (segP l fr l.length) h5]
   ·rw [if_neg hlt,List.append_nil] at hp;exact hp
 ·omega
theorem pst_none {l:List UInt8} {pre:List (List UInt8)} {fr k:Nat} (h:PSt l pre fr k) (hk:k≤l.length) (hx:∀ (h:k<l.length),l[k]=47) (hs:segP l fr k=[]∨segP l fr k=[46]):PSt l pre (k+1) (k+1):=by
 obtain⟨-,h2,h3⟩:=pst_cut h hk hx;refine h3 pre ?_;rw [h2,if_pos hs,List.nil_append]
theorem pst_some {l:List UInt8} {pre:List (List UInt8)} {fr k:Nat} (h:PSt l pre fr k) (hk:k≤l.length) (hx:∀ (h:k<l.length),l[k]=47) (hs:¬ (segP l fr k=[]∨segP l fr k=[46])) :
  PSt l (pre ++ [segP l fr k]) (k+1) (k+1)∧(pre ++ [segP l fr k]) <+: partsL l:=by
 obtain⟨-,h2,h3⟩:=pst_cut h hk hx;rw [if_neg hs,←List.append_assoc] at h2;exact⟨h3 _ h2,⟨_,h2.symm⟩⟩
theorem pst_le {l:List UInt8} {pre:List (List UInt8)} {fr k:Nat} (h:PSt l pre fr k) (hk:k≤l.length):fr≤k:=by
 obtain⟨h1,⟨h2,h3,h4,h5⟩|⟨h2,-⟩⟩:=h
 ·exact h3
 ·omega
theorem pst_size {l:List UInt8} {pre:List (List UInt8)} {fr k:Nat} (h:PSt l pre fr k):k≤l.length+1:=by
 obtain⟨h1,⟨h2,h3,h4,h5⟩|⟨h2,-⟩⟩:=h
 ·omega
 ·omega
theorem str_extr (l:List UInt8) (a b:Nat):(str l).extract a b=str ((l.take b).drop a):=by
 have:((str l).extract a b).data.toList=(str ((l.take b).drop a)).data.toList:=by rw [extract_list,str_list,str_list]
 rw [←str_of ((str l).extract a b),this,str_list]
theorem prefix_take {α:Type} {a b:List α} (h:a <+: b):∃ m,a=b.take m:=⟨a.length,(List.prefix_iff_eq_take.1 h)⟩
theorem scope_end {P:Program} {fn:Func} {R:Ending→World→Prop} {tmps:Array Value} {W:World} {v:Value} (h:(results fn tmps).run P W=.ok v W) (hR:R (.returned v) W):Exit.noGoto (bodyPost P fn R) .ret {tmps,defers:=[]} W:=
 bodyPost_ret h rfl hR
theorem seg_str (s:ByteArray) (a b:Nat):s.extract a b=str (segP s.data.toList a b):=by
 show s.extract a b=str ((s.data.toList.take b).drop a);rw [←str_extr,str_of]
theorem parts_stops (n:Nat) (hn:1≤n) (Bs:Nat) (s:ByteArray) (hl:s.size≤100000) (w:World) (hs:Blk w Bs #[.string s] 9) :
  SeqT (fun k=>k=Bs) Fence.wide n Tryz.prog 268 #[.pointer (some ⟨Bs,0,none⟩)] (fun x:List UInt8=>#[.string (str x)])
   (fun xs=>xs=partsL s.data.toList) (fun pre=>∃ m,pre=(partsL s.data.toList).take m) (fun pre x=>(pre ++ [x]) <+: partsL s.data.toList) w:=fun L J Jx W hW hWs hJ hJx hY h0=>by
 have Hs:=Lib.hid (show Blk W Bs #[.string s] 9 from (hW.2 Bs rfl).trans hs);have HSz:=Lib.hid (show s.data.toList.length=s.size from Array.length_toList);have HCh:=Lib.hid (fun (k:Nat) (hk:k<s.data.toList.length) (hk2:k<s.size)=>show s.data.toList[k]=s[k] from rfl);have HY:=Lib.hid hY;clear hs hW hWs hY;refine callsIn_of_wp Tryz.func268 rfl trivial ?_ rfl;simp only [Tryz.ntmps268,List.size_toArray,List.length_cons,List.length_nil,Nat.reduceAdd,Nat.reduceSub,Array.replicate_succ,Array.replicate_zero,List.push_toArray,List.append_toArray,List.nil_append,List.cons_append];refine (wpIn_wide (n:=n)).2 (wp_scope_straight ((wpIn_wide (n:=n)).1 ?_));refine wpIn_seq ?_;gi_wp2;refine wpIn_label ?_;gi_wp2
 gi_loopw [3,4] (fun f a wr=>∃ (pre:List (List UInt8)) (fr k:Nat),f=.int .i64 fr∧a=.int .i64 k∧PSt s.data.toList pre fr k∧J pre wr∧Blk wr Bs #[.string s] 9) (fun _ a _=>s.size+1 - (intOf a).toNat)
 case atStart=>exact ⟨[],0,0,rfl,rfl,pst_start _,h0,Hs.out⟩
 case round=>
  obtain⟨pre,fr,k,rfl,rfl,hp,hJp,hbs⟩:=hrel;have HP:=Lib.hid hp;have HJ0:=Lib.hid hJp;have HBs:=Lib.hid hbs;have hks:k≤s.size+1:=by have:=pst_size hp;rw [HSz.out] at this;exact this
  obtain⟨cs,fs,ls⟩:=hbs.facts;clear hp hJp hbs;by_cases hk:k≤s.size
  ·have hfr:fr≤k:=pst_le HP.out (by rw [HSz.out];exact hk);by_cases hc:∃ h:k<s.size,s[k]≠47
   ·obtain ⟨hkl,hc⟩:=hc;have HN:=Lib.hid (pst_skip HP.out (by rw [HSz.out];exact hkl) hc);have hc1:((s[k].toNat:Int) != 47)=true:=by
     simp only [bne_iff_ne,ne_eq];intro h;exact hc (by rw [u8_eq];show s[k].toNat=47;omega)
    clear hc;gi_wp2;go_roundw
    case rel=>exact ⟨pre,fr,k+1,rfl,by go_num,HN.out,HJ0.out,HBs.out⟩
    case measure=>simp [intOf];omega
   ·have HX:=Lib.hid (show ∀ (h:k<s.data.toList.length),s.data.toList[k]=47 from fun h=>Decidable.not_not.1 (fun h2=>hc ⟨by rw [←HSz.out];exact h,h2⟩));have HK:=Lib.hid (show k≤s.data.toList.length by rw [HSz.out];exact hk);obtain⟨p,hp⟩:∃ p,s.extract fr k=p:=⟨_,rfl⟩;have HPe:=Lib.hid (show p=str (segP s.data.toList fr k) by rw [←hp,seg_str]);have hpl:p.toList=segP s.data.toList fr k:=by rw [HPe.out,ba_list,str_list]
    have HPl:=Lib.hid hpl;clear hpl;have htest:((k:Int)<(s.size:Int)→∀ h:k<s.size,((s[k].toNat:Int) != 47)=false):=fun _ h=>by
     have:=HX.out (by rw [HSz.out];exact h);have h2:s[k]=47:=this;rw [h2];rfl
    by_cases he:segP s.data.toList fr k=[]
    ·have HN:=Lib.hid (pst_none HP.out HK.out HX.out (.inl he));have hp1:p.toList=[]:=by rw [HPl.out];exact he
     clear he;by_cases hkl:k<s.size
     ·have hc1:=htest (by omega) hkl;clear htest;gi_wp2;go_roundw
      case rel=>exact ⟨pre,k+1,k+1,by go_num,by go_num,HN.out,HJ0.out,HBs.out⟩
      case measure=>simp [intOf];omega
     ·obtain rfl:k=s.size:=by omega
      clear htest;gi_wp2;go_roundw
      case rel=>exact ⟨pre,_,_,by go_num,by go_num,HN.out,HJ0.out,HBs.out⟩
      case measure=>simp [intOf]
    ·by_cases hd:segP s.data.toList fr k=[46]
     ·have HN:=Lib.hid (pst_none HP.out HK.out HX.out (.inr hd));have hp1:p.toList=[46]:=by rw [HPl.out];exact hd
      clear he hd;by_cases hkl:k<s.size
      ·have hc1:=htest (by omega) hkl;clear htest;gi_wp2;go_roundw
       case rel=>exact ⟨pre,k+1,k+1,by go_num,by go_num,HN.out,HJ0.out,HBs.out⟩
       case measure=>simp [intOf];omega
      ·obtain rfl:k=s.size:=by omega
       clear htest;gi_wp2;go_roundw
       case rel=>exact ⟨pre,_,_,by go_num,by go_num,HN.out,HJ0.out,HBs.out⟩
       case measure=>simp [intOf]
     ·have hN:=pst_some HP.out HK.out HX.out (by rintro (h | h);exact he h;exact hd h);have HN:=Lib.hid hN.1;have HV:=Lib.hid hN.2;have hp1:p.toList.isEmpty=false:=by rw [HPl.out];simpa using he
      have hp2:(p.toList == [46])=false:=by rw [HPl.out];simpa using hd
      clear he hd hN;by_cases hkl:k<s.size
      ·have hc1:=htest (by omega) hkl;clear htest;obtain⟨fn,tmps,assign,body,hy,hR⟩:=HY.out pre _ wr HJ0.out HV.out;have hy2:(Instr.yield L #[.string p]).run Tryz.prog wr=.ok (.round L fn tmps assign body) wr:=by rw [HPe.out];exact hy
       have HR:=Lib.hid hR;clear hy hR;gi_wp2;refine HR.out.mono ?_;rintro e W3 (⟨rfl,hJ3,hk3⟩|⟨rfl,hJx3⟩)
       ·have HJ3:=Lib.hid hJ3;have HB3:=Lib.hid (show Blk W3 Bs #[.string s] 9 from (hk3.2 Bs rfl).trans HBs.out);clear hJ3 hk3 hy2;gi_wp2;go_roundw
        case rel=>exact ⟨_,k+1,k+1,by go_num,by go_num,HN.out,HJ3.out,HB3.out⟩
        case measure=>simp [intOf];omega
       ·have HJx:=Lib.hid hJx3;clear hJx3 hy2;gi_wp2;exact scope_end (results_none rfl _ _ _) ⟨⟨_,rfl⟩,.inr ⟨_,prefix_take HV.out,HJx.out⟩⟩
      ·obtain rfl:k=s.size:=by omega
       clear htest;obtain⟨fn,tmps,assign,body,hy,hR⟩:=HY.out pre _ wr HJ0.out HV.out;have hy2:(Instr.yield L #[.string p]).run Tryz.prog wr=.ok (.round L fn tmps assign body) wr:=by rw [HPe.out];exact hy
       have HR:=Lib.hid hR;clear hy hR;gi_wp2;refine HR.out.mono ?_;rintro e W3 (⟨rfl,hJ3,hk3⟩|⟨rfl,hJx3⟩)
       ·have HJ3:=Lib.hid hJ3;have HB3:=Lib.hid (show Blk W3 Bs #[.string s] 9 from (hk3.2 Bs rfl).trans HBs.out);clear hJ3 hk3 hy2;gi_wp2;go_roundw
        case rel=>exact ⟨_,_,_,by go_num,by go_num,HN.out,HJ3.out,HB3.out⟩
        case measure=>simp [intOf]
       ·have HJx:=Lib.hid hJx3;clear hJx3 hy2;gi_wp2;exact scope_end (results_none rfl _ _ _) ⟨⟨_,rfl⟩,.inr ⟨_,prefix_take HV.out,HJx.out⟩⟩
  ·have HE:=Lib.hid (pst_end HP.out (by rw [HSz.out];omega));have hk':¬ (k:Int)≤(s.size:Int):=by omega
   gi_wp2
   go_end0
   exact⟨⟨_,rfl⟩,.inl (by rw [HE.out];exact HJ0.out)⟩
end
section
open Go
def noDefer (ops:Array Oper):Bool:=ops.all fun o=>match o.op with | .defer _=>false | _=>true
theorem noDefer_spec {ops:Array Oper} (h:noDefer ops=true) {i:Nat} {o:Oper} (hi:ops[i]? = some o):∀ c,o.op≠.defer c:=by
 intro c hc;unfold noDefer at h;rw [Array.all_eq_true] at h;obtain⟨hlt,rfl⟩:=Array.getElem?_eq_some_iff.1 hi;have:=h i hlt;rw [hc] at this
 cases this
section
variable {P:Program} {ops:Array Oper} {md:Region.Mode} {w:World} {l:Nat} {n:Nat}
end
end
end Go.Proofs.YtihdbncoijhihaaGreatDoor
