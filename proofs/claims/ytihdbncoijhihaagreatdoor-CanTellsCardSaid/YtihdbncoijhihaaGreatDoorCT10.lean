import Derived.Deep.LoopGhost
import Derived.Laws.CopyRow
import Derived.Laws.Externs
import Derived.Lib.Overlaps
import Derived.Lib.AppendZeros
import Derived.Lib.JoinLaws
import Derived.Deep.AppendSrc
import Derived.Lib.SliceRun
import Derived.Test.YtihdbncoijhihaaGreatDoorCT9
import Derived.Test.YtihdbncoijhihaaGreatDoorCT6
import Derived.Test.YtihdbncoijhihaaGreatDoorCT3
set_option linter.unusedVariables false
set_option linter.unusedSimpArgs false
namespace Go.Proofs.YtihdbncoijhihaaGreatDoor
open Go.RowKit
theorem Blk.row {w : World} {B : Nat} {xs vs : List Value} {T : TypeId} (h : Blk w B xs.toArray T) (hl : xs.length=vs.length) : Blk (putRow w B 0 vs) B vs.toArray T:=by
 have h1:=putRow_blk vs w 0 _ h
 have h2:=setAll_head vs xs [] hl
 rw [List.append_nil,List.append_nil] at h2
 rw [List.toList_toArray,h2] at h1
 exact h1
set_option maxRecDepth 100000 in
theorem Blk.set12 {w : World} {B : Nat} {x0 x1 x2 x3 x4 x5 x6 x7 x8 x9 x10 x11 v0 v1 v2 v3 v4 v5 v6 v7 v8 v9 v10 v11 : Value} {T : TypeId} (h : Blk w B #[x0,x1,x2,x3,x4,x5,x6,x7,x8,x9,x10,x11] T) : Blk ((((((((((((w.setCell ⟨B,0,none⟩ v0).setCell ⟨B,1,none⟩ v1).setCell ⟨B,2,none⟩ v2).setCell ⟨B,3,none⟩ v3).setCell ⟨B,4,none⟩ v4).setCell ⟨B,5,none⟩ v5).setCell ⟨B,6,none⟩ v6).setCell ⟨B,7,none⟩ v7).setCell ⟨B,8,none⟩ v8).setCell ⟨B,9,none⟩ v9).setCell ⟨B,10,none⟩ v10).setCell ⟨B,11,none⟩ v11) B #[v0,v1,v2,v3,v4,v5,v6,v7,v8,v9,v10,v11] T:=
 Blk.row (xs:=[x0,x1,x2,x3,x4,x5,x6,x7,x8,x9,x10,x11]) (vs:=[v0,v1,v2,v3,v4,v5,v6,v7,v8,v9,v10,v11]) h rfl
theorem below_row {N : Nat} {w0 : World} {B : Nat} (hB : N≤B) : ∀ (vs : List Value) (w : World) (o : Nat),Below N w0 w→Below N w0 (putRow w B o vs)
 | [],_,_,h=>h
 | v :: vs,w,o,h=>by unfold putRow;exact below_row hB vs _ _ (h.setCell hB v)
set_option maxRecDepth 100000 in
theorem below_set12 {N : Nat} {w0 w : World} {B : Nat} {v0 v1 v2 v3 v4 v5 v6 v7 v8 v9 v10 v11 : Value} (h : Below N w0 w) (hB : N≤B) : Below N w0 ((((((((((((w.setCell ⟨B,0,none⟩ v0).setCell ⟨B,1,none⟩ v1).setCell ⟨B,2,none⟩ v2).setCell ⟨B,3,none⟩ v3).setCell ⟨B,4,none⟩ v4).setCell ⟨B,5,none⟩ v5).setCell ⟨B,6,none⟩ v6).setCell ⟨B,7,none⟩ v7).setCell ⟨B,8,none⟩ v8).setCell ⟨B,9,none⟩ v9).setCell ⟨B,10,none⟩ v10).setCell ⟨B,11,none⟩ v11):=
 below_row hB [v0,v1,v2,v3,v4,v5,v6,v7,v8,v9,v10,v11] w 0 h
theorem Blk.cells12 {w : World} {B : Nat} {x0 x1 x2 x3 x4 x5 x6 x7 x8 x9 x10 x11 : Value} {T : TypeId} (h : Blk w B #[x0,x1,x2,x3,x4,x5,x6,x7,x8,x9,x10,x11] T) :
  w.cell? ⟨B,0,none⟩=some (x0)∧w.cell? ⟨B,1,none⟩=some (x1)∧w.cell? ⟨B,2,none⟩=some (x2)∧w.cell? ⟨B,3,none⟩=some (x3)∧w.cell? ⟨B,4,none⟩=some (x4)∧w.cell? ⟨B,5,none⟩=some (x5)∧w.cell? ⟨B,6,none⟩=some (x6)∧w.cell? ⟨B,7,none⟩=some (x7)∧w.cell? ⟨B,8,none⟩=some (x8)∧w.cell? ⟨B,9,none⟩=some (x9)∧w.cell? ⟨B,10,none⟩=some (x10)∧w.cell? ⟨B,11,none⟩=some (x11):=
 ⟨h.cell 0,h.cell 1,h.cell 2,h.cell 3,h.cell 4,h.cell 5,h.cell 6,h.cell 7,h.cell 8,h.cell 9,h.cell 10,h.cell 11⟩
set_option maxRecDepth 100000 in
set_option maxHeartbeats 1000000 in
theorem place_results {tmps : Array Value} {W : World} {B : Nat} {a : An} {ea : Option Addr} {el ec : Nat} {e : Int} (hb : Blk W B #[.int .i64 a.no,.int .i64 a.dev,.int .i64 a.kind,.int .i64 a.mode,.int .i64 a.uid,.int .i64 a.gid,.int .i64 a.mtime,.int .i64 a.ctime,.int .i64 a.links,.int .i64 a.up,.string a.data,.slice ea el ec] 109)
  (h8 : tmps.getD 8 undef=.pointer (some ⟨B,0,none⟩)) (h9 : tmps.getD 9 undef=.int .i64 e) : (results Tryz.f283 tmps).run Tryz.prog W=.ok (.tuple #[a.v ea el ec,.int .i64 e]) W:=by
 obtain⟨q0,q1,q2,q3,q4,q5,q6,q7,q8,q9,q10,q11⟩:=hb.cells12
 rw [Array.getD_eq_getD_getElem?] at h8 h9
 simp [results,Tryz.results283,go_sem,An.v,h8,h9,q0,q1,q2,q3,q4,q5,q6,q7,q8,q9,q10,q11]
section
variable {w w' : World} {pw : Nat} {R : Rp} {S : Fs}
set_option maxRecDepth 100000 in
set_option maxHeartbeats 1000000 in
theorem place_none (h : WdAt w pw R S) {N : Nat} (hk : FsOk S N) (c : Cr) (dir : Int) (s : ByteArray) (hs : s.size≤9223372036854775807) (hg : S.get dir=none) :
  Calls Tryz.prog 283 #[.pointer (some ⟨pw,0,none⟩),.agg #[.int .i64 c.u,.int .i64 c.g],.int .i64 dir,.string s] w fun e w'=>e=.returned (.tuple #[an0.v none 0 0,.int .i64 5])∧Below w.heap.size w w':=by
 have HDv:=Lib.hid (fun w1 (hb1 : Below w.heap.size w w1)=>wdevs_any (h.keep hb1) hk.d1)
 have hnz:=hk.d1
 generalize S.ds.length=n at HDv hnz
 have hz : ((n : Int) == 0)=false:=by simp;omega
 have HG:=Lib.hid (fun w1 (hb1 : Below w.heap.size w w1)=>wget_no (h.keep hb1) hg)
 have HCk:=Lib.hid (fun w=>ncheck_any s w hs)
 obtain⟨pc,-,pz⟩:=h.blk.facts
 unfold An.v an0 at HG
 generalize checkE s=ce at HCk
 clear h hk hg
 go_enter Tryz.func283,Tryz.ntmps283
 go_wp2_with fail
 refine (HDv.out _ (balloc (balloc (Below.refl _ _) _) _)).mono ?_
 rintro e w1 ⟨rfl,rfl⟩
 go_wp2_with fail
 refine (HG.out _ (balloc (balloc (Below.refl _ _) _) _)).mono ?_
 rintro e w1 ⟨rfl,hb1⟩
 have hb2:=bnext (balloc (balloc (Below.refl w.heap.size w) _) _) hb1
 have hR : Blk w1 (w.heap.size + 1) #[.int .i64 0,.int .i64 0,.int .i64 0,.int .i64 0,.int .i64 0,.int .i64 0,.int .i64 0,.int .i64 0,.int .i64 0,.int .i64 0,.string ⟨#[]⟩,.slice none 0 0] 109:=by
  have:=((Blk.new (w.alloc (.cells #[.int .i64 c.u,.int .i64 c.g] 27)) #[.int .i64 0,.int .i64 0,.int .i64 0,.int .i64 0,.int .i64 0,.int .i64 0,.int .i64 0,.int .i64 0,.int .i64 0,.int .i64 0,.string ⟨#[]⟩,.slice none 0 0] 109).keep hb1)
  rwa [World.size_alloc] at this
 have hRX:=hR.old (.cells #[.int .i64 0,.int .i64 0,.int .i64 0,.int .i64 0,.int .i64 0,.int .i64 0,.int .i64 0,.int .i64 0,.int .i64 0,.int .i64 0,.string ByteArray.empty,.slice none 0 0] 109)
 have hbX:=balloc hb2 (.cells #[.int .i64 0,.int .i64 0,.int .i64 0,.int .i64 0,.int .i64 0,.int .i64 0,.int .i64 0,.int .i64 0,.int .i64 0,.int .i64 0,.string ByteArray.empty,.slice none 0 0] 109)
 clear hR hb1 hb2 pc
 go_wp2_with fail
 generalize w1.alloc (.cells #[.int .i64 0,.int .i64 0,.int .i64 0,.int .i64 0,.int .i64 0,.int .i64 0,.int .i64 0,.int .i64 0,.int .i64 0,.int .i64 0,.string ByteArray.empty,.slice none 0 0] 109)=X at hRX hbX ⊢
 refine (HCk.out _).mono ?_
 rintro e w2 ⟨rfl,rfl⟩
 have HRX:=Lib.hid hRX
 have HBX:=Lib.hid hbX
 obtain⟨rc,rf,rz⟩:=hRX.facts
 clear hRX hbX
 go_wp2_with fail
 exact bodyPost_ret (place_results (a:=an0) HRX.out.set12 rfl rfl) rfl ⟨rfl,below_set12 HBX.out (Nat.le_succ _)⟩
theorem wget_fix (h : WdAt w pw R S) {k : Int} {a : An} (hg : S.get k=some a) : ∃ ea el ec,EntsAt w ea el ec a.ents∧∀ w1,Below w.heap.size w w1→
  Calls Tryz.prog 98 #[.pointer (some ⟨R.pt,0,none⟩),.int .i64 k] w1 fun e w'=>e=.returned (.tuple #[a.v ea el ec,.bool true])∧Below w1.heap.size w1 w':=by
 obtain⟨g,-,rfl,hf,he⟩:=G_of h hg
 exact⟨g.ea,g.el,g.ec,he,fun w1 hb1=>get_yes g.nd k w1 R.pt R.pm S.last _ R.clk (h.keep hb1).tab hf⟩
set_option maxRecDepth 100000 in
set_option maxHeartbeats 2000000 in
theorem place_some (h : WdAt w pw R S) {N : Nat} (hk : FsOk S N) (c : Cr) (dir : Int) (s : ByteArray) (hs : s.size≤9223372036854775807) (d : An) (hg : S.get dir=some d) :
  Calls Tryz.prog 283 #[.pointer (some ⟨pw,0,none⟩),.agg #[.int .i64 c.u,.int .i64 c.g],.int .i64 dir,.string s] w fun e w'=>((S.placeE c dir s≠0∧e=.returned (.tuple #[an0.v none 0 0,.int .i64 (S.placeE c dir s)]))∨(S.placeE c dir s=0∧∃ ea el ec,e=.returned (.tuple #[d.v ea el ec,.int .i64 0])∧EntsAt w ea el ec d.ents))∧Below w.heap.size w w':=by
 have HDv:=Lib.hid (fun w1 (hb1 : Below w.heap.size w w1)=>wdevs_any (h.keep hb1) hk.d1)
 have hnz:=hk.d1
 generalize S.ds.length=n at HDv hnz
 have hz : ((n : Int) == 0)=false:=by simp;omega
 obtain⟨ea,el,ec,he,hG⟩:=wget_fix h hg
 have HE:=Lib.hid he
 have HG:=Lib.hid hG
 unfold An.v at HG
 have HCk:=Lib.hid (fun w=>ncheck_any s w hs)
 have HPl:=Lib.hid (show S.placeE c dir s=if d.kind≠1 then 9 else if checkE s≠0 then checkE s else if d.may c 3=false then 6 else 0 by unfold Fs.placeE;rw [hg])
 have HNd:=Lib.hid (fun w=>pnode_any c d ea el ec 3 w)
 unfold Cr.v An.v at HNd
 obtain⟨pc,-,pz⟩:=h.blk.facts
 generalize checkE s=ce at HCk HPl
 generalize S.placeE c dir s=pe at HPl ⊢
 generalize d.may c 3=my at HPl HNd
 clear h hk hg he hG
 go_enter Tryz.func283,Tryz.ntmps283
 go_wp2_with fail
 refine (HDv.out _ (balloc (balloc (Below.refl _ _) _) _)).mono ?_
 rintro e w1 ⟨rfl,rfl⟩
 go_wp2_with fail
 refine (HG.out _ (balloc (balloc (Below.refl _ _) _) _)).mono ?_
 rintro e w1 ⟨rfl,hb1⟩
 have hb2:=bnext (balloc (balloc (Below.refl w.heap.size w) _) _) hb1
 have hR : Blk w1 (w.heap.size + 1) #[.int .i64 0,.int .i64 0,.int .i64 0,.int .i64 0,.int .i64 0,.int .i64 0,.int .i64 0,.int .i64 0,.int .i64 0,.int .i64 0,.string ⟨#[]⟩,.slice none 0 0] 109:=by
  have:=((Blk.new (w.alloc (.cells #[.int .i64 c.u,.int .i64 c.g] 27)) #[.int .i64 0,.int .i64 0,.int .i64 0,.int .i64 0,.int .i64 0,.int .i64 0,.int .i64 0,.int .i64 0,.int .i64 0,.int .i64 0,.string ⟨#[]⟩,.slice none 0 0] 109).keep hb1)
  rwa [World.size_alloc] at this
 have hCr : Blk w1 w.heap.size #[.int .i64 c.u,.int .i64 c.g] 27:=((Blk.new w #[.int .i64 c.u,.int .i64 c.g] 27).old (.cells #[.int .i64 0,.int .i64 0,.int .i64 0,.int .i64 0,.int .i64 0,.int .i64 0,.int .i64 0,.int .i64 0,.int .i64 0,.int .i64 0,.string ⟨#[]⟩,.slice none 0 0] 109)).keep hb1
 have hRX:=hR.old (.cells #[.int .i64 d.no,.int .i64 d.dev,.int .i64 d.kind,.int .i64 d.mode,.int .i64 d.uid,.int .i64 d.gid,.int .i64 d.mtime,.int .i64 d.ctime,.int .i64 d.links,.int .i64 d.up,.string d.data,.slice ea el ec] 109)
 have hCX:=hCr.old (.cells #[.int .i64 d.no,.int .i64 d.dev,.int .i64 d.kind,.int .i64 d.mode,.int .i64 d.uid,.int .i64 d.gid,.int .i64 d.mtime,.int .i64 d.ctime,.int .i64 d.links,.int .i64 d.up,.string d.data,.slice ea el ec] 109)
 have hDX:=Blk.new w1 #[.int .i64 d.no,.int .i64 d.dev,.int .i64 d.kind,.int .i64 d.mode,.int .i64 d.uid,.int .i64 d.gid,.int .i64 d.mtime,.int .i64 d.ctime,.int .i64 d.links,.int .i64 d.up,.string d.data,.slice ea el ec] 109
 have hbX:=balloc hb2 (.cells #[.int .i64 d.no,.int .i64 d.dev,.int .i64 d.kind,.int .i64 d.mode,.int .i64 d.uid,.int .i64 d.gid,.int .i64 d.mtime,.int .i64 d.ctime,.int .i64 d.links,.int .i64 d.up,.string d.data,.slice ea el ec] 109)
 clear hR hCr hb1 hb2 pc
 go_wp2_with fail
 generalize w1.alloc (.cells #[.int .i64 d.no,.int .i64 d.dev,.int .i64 d.kind,.int .i64 d.mode,.int .i64 d.uid,.int .i64 d.gid,.int .i64 d.mtime,.int .i64 d.ctime,.int .i64 d.links,.int .i64 d.up,.string d.data,.slice ea el ec] 109)=X at hRX hCX hDX hbX ⊢
 refine (HCk.out _).mono ?_
 rintro e w2 ⟨rfl,rfl⟩
 have HRX:=Lib.hid hRX
 have HBX:=Lib.hid hbX
 have HDX:=Lib.hid hDX
 have HCX:=Lib.hid hCX
 obtain⟨rc,rf,rz⟩:=hRX.facts
 obtain⟨dc,df,dz⟩:=hDX.facts
 obtain⟨cc,-,-⟩:=hCX.facts
 clear hRX hbX hDX hCX
 by_cases h1 : d.kind=1
 ·have q1 : (d.kind == 1)=true:=by simpa using h1
  have q2 : (d.kind != 1)=false:=by simpa using h1
  by_cases h2 : ce=0
  ·have q3 : (ce != 0)=false:=by simpa using h2
   cases my
   ·have HE6:=Lib.hid (show pe=6 by rw [HPl.out];simp [h1,h2])
    clear h1 h2
    go_wp2_with fail
    refine (HNd.out _).mono ?_
    rintro e w5 ⟨rfl,hb5⟩
    have hRX5:=HRX.out.keep hb5
    have hBX5:=HBX.out.trans (hb5.mono HBX.out.size)
    have HRX5:=Lib.hid hRX5
    have HBX5:=Lib.hid hBX5
    clear rc rf rz dc df dz cc
    obtain⟨rc,rf,rz⟩:=hRX5.facts
    clear hRX5 hBX5 hb5
    go_wp2_with fail
    exact bodyPost_ret (place_results (a:=an0) HRX5.out.set12 rfl rfl) rfl ⟨.inl ⟨by rw [HE6.out];decide,by rw [HE6.out]⟩,below_set12 HBX5.out (Nat.le_succ _)⟩
   ·have HE0:=Lib.hid (show pe=0 by rw [HPl.out];simp [h1,h2])
    clear h1 h2
    go_wp2_with fail
    refine (HNd.out _).mono ?_
    rintro e w5 ⟨rfl,hb5⟩
    have hRX5:=HRX.out.keep hb5
    have hDX5:=HDX.out.keep hb5
    have hBX5:=HBX.out.trans (hb5.mono HBX.out.size)
    have HRX5:=Lib.hid hRX5
    have HBX5:=Lib.hid hBX5
    clear rc rf rz dc df dz cc
    obtain⟨rc,rf,rz⟩:=hRX5.facts
    obtain⟨dc,-,-⟩:=hDX5.facts
    clear hRX5 hBX5 hb5 hDX5
    go_wp2_with fail
    exact bodyPost_ret (place_results (a:=d) (ea:=ea) (el:=el) (ec:=ec) HRX5.out.set12 rfl rfl) rfl ⟨.inr ⟨HE0.out,ea,el,ec,rfl,HE.out⟩,below_set12 HBX5.out (Nat.le_succ _)⟩
  ·have q3 : (ce != 0)=true:=by simpa using h2
   have HEc:=Lib.hid (show pe=ce∧ce≠0 by refine ⟨?_,h2⟩;rw [HPl.out];simp [h1,h2])
   clear h1 h2
   go_wp2_with fail
   exact bodyPost_ret (place_results (a:=an0) HRX.out.set12 rfl rfl) rfl ⟨.inl ⟨by rw [HEc.out.1];exact HEc.out.2,by rw [HEc.out.1]⟩,below_set12 HBX.out (Nat.le_succ _)⟩
 ·have q2 : (d.kind != 1)=true:=by simpa using h1
  have HE9:=Lib.hid (show pe=9 by rw [HPl.out];simp [h1])
  clear h1
  go_wp2_with fail
  exact bodyPost_ret (place_results (a:=an0) HRX.out.set12 rfl rfl) rfl ⟨.inl ⟨by rw [HE9.out];decide,by rw [HE9.out]⟩,below_set12 HBX.out (Nat.le_succ _)⟩
end
end Go.Proofs.YtihdbncoijhihaaGreatDoor
namespace Go.Proofs.YtihdbncoijhihaaGreatDoor
open Go.RowKit
section
variable {w w' : World} {pw : Nat} {R : Rp} {S : Fs}
theorem body_panic {P : Program} {fn : Func} {R : Ending→World→Prop} : ∀ c d v a w,bodyPost P fn R (.panic c) (Act.put a d v) w→bodyPost P fn R (.panic c) a w:=
 fun c d v a w h=>by
  have h' : (Act.put a d v).defers=[]∧R (.panicked c) w:=h
  exact show a.defers=[]∧R (.panicked c) w from ⟨by rw [← h'.1];cases d <;> rfl,h'.2⟩
set_option maxRecDepth 100000 in
set_option maxHeartbeats 2000000 in
theorem touch_any (h : WdAt w pw R S) (dir now : Int) (d : An) (hg : S.get dir=some d) (l : List En) (a : Option Addr) (n c : Nat) (hl : EntsAt w a n c l) :
  Calls Tryz.prog 285 #[.pointer (some ⟨pw,0,none⟩),.int .i64 dir,.int .i64 now,.slice a n c] w fun e w'=>e=.returned (.tuple #[])∧∃ R',WdAt w' pw R' (S.touch now dir l)∧Stp (R.F pw) (R'.F pw) w w':=by
 obtain⟨ea,el,ec,he,hG⟩:=wget_fix h hg
 have HG:=Lib.hid (hG w (Below.refl _ _))
 unfold An.v at HG
 have HT:=Lib.hid (show S.touch now dir l=S.set { d with ents:=l,mtime:=now,ctime:=now } by unfold Fs.touch;rw [hg])
 have hno:=an_no hg
 have HSet:=Lib.hid (fun w1 (hb1 : Below w.heap.size w w1)=>(h.keep hb1).setN { d with ents:=l,mtime:=now,ctime:=now } (hl.keep hb1) (b:=d) (by rw [show ({ d with ents:=l,mtime:=now,ctime:=now } : An).no=d.no from rfl,hno];exact hg))
 unfold An.v at HSet
 obtain⟨pc,-,pz⟩:=h.blk.facts
 have mixed : Tryz.prog.follows .mixedOrders=true:=by kernel_rfl
 clear h hg he hG hno hl
 go_enter Tryz.func285,Tryz.ntmps285
 go_wp2_with fail
 refine HG.out.mono ?_
 rintro e w1 ⟨rfl,hb1⟩
 have pc0 : (w1.alloc (.cells #[.int .i64 d.no,.int .i64 d.dev,.int .i64 d.kind,.int .i64 d.mode,.int .i64 d.uid,.int .i64 d.gid,.int .i64 now,.int .i64 now,.int .i64 d.links,.int .i64 d.up,.string d.data,.slice a n c] 109)).cell? ⟨pw,0,none⟩=_:=((balloc hb1 (.cells #[.int .i64 d.no,.int .i64 d.dev,.int .i64 d.kind,.int .i64 d.mode,.int .i64 d.uid,.int .i64 d.gid,.int .i64 now,.int .i64 now,.int .i64 d.links,.int .i64 d.up,.string d.data,.slice a n c] 109)).cell (p:=⟨pw,0,none⟩) pz).trans (pc 0)
 have hB:=Blk.new w1 #[.int .i64 d.no,.int .i64 d.dev,.int .i64 d.kind,.int .i64 d.mode,.int .i64 d.uid,.int .i64 d.gid,.int .i64 now,.int .i64 now,.int .i64 d.links,.int .i64 d.up,.string d.data,.slice a n c] 109
 have hbX:=balloc hb1 (.cells #[.int .i64 d.no,.int .i64 d.dev,.int .i64 d.kind,.int .i64 d.mode,.int .i64 d.uid,.int .i64 d.gid,.int .i64 now,.int .i64 now,.int .i64 d.links,.int .i64 d.up,.string d.data,.slice a n c] 109)
 clear pc hb1
 go_wp2_with fail
 generalize w1.alloc (.cells #[.int .i64 d.no,.int .i64 d.dev,.int .i64 d.kind,.int .i64 d.mode,.int .i64 d.uid,.int .i64 d.gid,.int .i64 now,.int .i64 now,.int .i64 d.links,.int .i64 d.up,.string d.data,.slice a n c] 109)=X at pc0 hB hbX ⊢
 obtain⟨bc,-,bz⟩:=hB.facts
 have HS:=Lib.hid (HSet.out _ hbX.drew)
 have HX:=Lib.hid hbX
 clear hB hbX
 refine wp_region_lex 5 mixed (by kernel_rfl) body_panic ?_
 simp only [List.take_succ_cons,List.take_zero,List.drop_succ_cons,List.drop_zero]
 repeat still_step
 refine wpStill_nil ?_
 go_wp2_with fail
 refine HS.out.mono ?_
 rintro e w5 ⟨rfl,R',hR1,hR2,-,-⟩
 have HR:=Lib.hid (And.intro hR1 hR2)
 clear hR1 hR2
 go_wp2_with fail
 go_end0
 rw [HT.out]
 exact⟨rfl,R',HR.out.1,(Stp.of_below HX.out.drew).trans HR.out.2⟩
end
end Go.Proofs.YtihdbncoijhihaaGreatDoor
namespace Go.Proofs.YtihdbncoijhihaaGreatDoor
open Go.RowKit
def cmpB (a b : ByteArray) : Int:=if ltB a b=true then -1 else if ltB b a=true then 1 else 0
theorem cmpB_lt (a b : ByteArray) : (cmpB a b < 0)=(ltB a b=true):=by
 unfold cmpB
 cases h : ltB a b
 ·simp;split <;> omega
 ·simp
theorem cmpB_eq (a b : ByteArray) : (cmpB a b=0)=(a=b):=by
 unfold cmpB
 cases h : ltB a b
 ·cases k : ltB b a
  ·simp [ltB_total h k]
  ·simp [(ltB_ne k).symm]
 ·simp [ltB_ne h]
set_option maxHeartbeats 400000 in
theorem compare_any (a b : ByteArray) (w : World) :
  Calls Tryz.prog 301 #[.string a,.string b] w fun e w'=>e=.returned (.int .i64 (cmpB a b))∧w=w':=by
 unfold cmpB
 cases h : ltB a b
 ·cases k : ltB b a
  ·obtain rfl : a=b:=ltB_total h k
   rw [← ltB_mk] at h
   clear k
   go_enter Tryz.func301,Tryz.ntmps301
   go_wp2
   go_ret
   exact⟨rfl,rfl⟩
  ·have hne : ¬ a.toList=b.toList:=fun e=>by
    rw [ByteArray.toList_eq,ByteArray.toList_eq] at e
    rw [ba_eq e,ltB_irrefl] at k
    cases k
   have hq : (a.toList == b.toList)=false:=by simpa using hne
   rw [← ltB_mk] at h
   clear k
   go_enter Tryz.func301,Tryz.ntmps301
   go_wp2
   go_ret
   exact⟨rfl,rfl⟩
 ·rw [← ltB_mk] at h
  go_enter Tryz.func301,Tryz.ntmps301
  go_wp2
  go_ret
  exact⟨rfl,rfl⟩
set_option maxHeartbeats 400000 in
theorem by_any (x : En) (n : ByteArray) (w : World) :
  Calls Tryz.prog 270 #[.agg #[.string x.name,.int .i64 x.no],.string n] w fun e w'=>e=.returned (.int .i64 (cmpB x.name n))∧Below w.heap.size w w':=by
 go_enter Tryz.func270,Tryz.ntmps270
 go_wp2_with (go_at_call 301;refine (compare_any _ _ _).mono ?_;rintro e w1 ⟨rfl,rfl⟩)
 go_ret
 exact⟨rfl,by go_grown⟩
end Go.Proofs.YtihdbncoijhihaaGreatDoor
namespace Go.Proofs.YtihdbncoijhihaaGreatDoor
open Go.RowKit
def hasE (es : List En) (s : ByteArray) : Bool:=(es.find? (fun x=>decide (x.name=s))).isSome
set_option maxRecDepth 100000 in
set_option maxHeartbeats 1000000 in
theorem search_any (es : List En) (a : Option Addr) (n c : Nat) (s : ByteArray) (w : World) (he : EntsAt w a n c es) (hr : Rise es) (hn : n≤1000000) :
  Calls Tryz.prog 269 #[.slice a n c,.string s,.func (.func 270) #[] #[]] w fun e w'=>e=.returned (.tuple #[.int .i64 (entAt es s),.bool (hasE es s)])∧Below w.heap.size w w':=by
 have hl:=he.len
 have HR:=Lib.hid hr
 have HE:=Lib.hid he
 have hat:=entAt_le es s
 clear hr he
 obtain⟨A,hA⟩ : ∃ A,entAt es s=A:=⟨_,rfl⟩
 have HA:=Lib.hid hA
 rw [hA] at hat ⊢
 clear hA
 go_enter Tryz.func269,Tryz.ntmps269
 go_wp2_with fail
 go_loopw [9,10] (fun i j wr=>∃ lo hi : Nat,lo≤A∧A≤hi∧hi≤n∧i=.int .i64 lo∧j=.int .i64 hi∧Below w.heap.size w wr) (fun i j _=>(intOf j - intOf i).toNat)
 case atStart=>exact ⟨0,n,by omega,by omega,by omega,rfl,rfl,Below.refl _ _⟩
 case round=>
  obtain⟨lo,hi,h1,h2,h3,rfl,rfl,hB⟩:=hrel
  by_cases hlt : lo < hi
  ·obtain ⟨b,off,rfl,hb⟩:=HE.out.some_of (by omega)
   obtain⟨k,hk⟩ : ∃ k : Nat,(lo + hi) / 2=k:=⟨_,rfl⟩
   have hkl : k < es.length:=by omega
   obtain⟨c1,c2⟩:=(HE.out.keep hB).cell k hkl
   obtain⟨x,hx⟩ : ∃ x,es[k]=x:=⟨_,rfl⟩
   rw [hx] at c1 c2
   have hcv : (cmpB x.name s < 0)=(k < A):=by
    rw [cmpB_lt,← hx,rise_lt HR.out s k hkl,HA.out]
    simp
   by_cases hkA : k < A
   ·have hneg : cmpB x.name s < 0:=by rw [hcv];exact hkA
    clear hcv hx
    go_wp2_with fail
    refine (by_any x s _).mono ?_
    rintro e w1 ⟨rfl,hb1⟩
    go_wp2_with fail
    go_roundw
    case rel=>exact ⟨k + 1,hi,by omega,by omega,h3,by go_num,rfl,bnext hB hb1⟩
    case measure=>simp [intOf];omega
   ·have hneg : ¬ cmpB x.name s < 0:=by rw [hcv];exact hkA
    clear hcv hx
    go_wp2_with fail
    refine (by_any x s _).mono ?_
    rintro e w1 ⟨rfl,hb1⟩
    go_wp2_with fail
    go_roundw
    case rel=>exact ⟨lo,k,by omega,by omega,by omega,rfl,by rw [show ((lo : Int) + (hi : Int)) / 2=(k : Int) by omega],bnext hB hb1⟩
    case measure=>simp [intOf];omega
  ·obtain rfl : lo=A:=by omega
   by_cases hAn : lo < n
   ·obtain ⟨b,off,rfl,hb⟩:=HE.out.some_of (by omega)
    have hkl : lo < es.length:=by omega
    obtain⟨c1,c2⟩:=(HE.out.keep hB).cell lo hkl
    obtain⟨x,hx⟩ : ∃ x,es[lo]=x:=⟨_,rfl⟩
    rw [hx] at c1 c2
    by_cases hxs : x.name=s
    ·have hz : cmpB x.name s=0:=by rw [cmpB_eq];exact hxs
     have HF:=Lib.hid (show hasE es s=true by
      unfold hasE
      rw [find_at HR.out s,dif_pos (by rw [HA.out];exact hkl),if_pos (by simp only [HA.out,hx];exact hxs)]
      rfl)
     have Hz:=Lib.hid hz
     clear hx hxs hz
     go_wp2_with fail
     refine (by_any x s _).mono ?_
     rw [Hz.out]
     rintro e w1 ⟨rfl,hb1⟩
     go_wp2_with fail
     go_ret2
     exact⟨by rw [HF.out];rfl,bnext hB hb1⟩
    ·have hz : ¬ cmpB x.name s=0:=by rw [cmpB_eq];exact hxs
     have HF:=Lib.hid (show hasE es s=false by
      unfold hasE
      rw [find_at HR.out s,dif_pos (by rw [HA.out];exact hkl),if_neg (by simp only [HA.out,hx];exact hxs)]
      rfl)
     have hz2 : (cmpB x.name s == 0)=false:=by simpa using hz
     clear hx hxs hz
     go_wp2_with fail
     refine (by_any x s _).mono ?_
     rintro e w1 ⟨rfl,hb1⟩
     go_wp2_with fail
     go_ret2
     exact⟨by rw [HF.out];rfl,bnext hB hb1⟩
   ·have HF:=Lib.hid (show hasE es s=false by
     unfold hasE
     rw [find_at HR.out s,dif_neg (by rw [HA.out];omega)]
     rfl)
    go_wp2_with fail
    go_ret2
    exact⟨by rw [HF.out];rfl,hB⟩
theorem has_find {es : List En} {s : ByteArray} (h : hasE es s=false) : entFind es s=0:=by
 unfold hasE at h
 unfold entFind
 cases hf : es.find? (fun x=>decide (x.name=s)) with
 | none=>rfl
 | some x=>rw [hf] at h;cases h
theorem at_find {es : List En} {s : ByteArray} (hr : Rise es) (h : hasE es s=true) : ∃ hk : entAt es s < es.length,entFind es s=es[entAt es s].no∧es[entAt es s].name=s:=by
 unfold hasE at h
 unfold entFind
 rw [find_at hr s] at h ⊢
 split at h
 ·rename_i hk
  split at h
  ·rename_i hx
   refine ⟨hk,?_,hx⟩
   rw [dif_pos hk,if_pos hx]
  ·cases h
 ·cases h
set_option maxRecDepth 100000 in
set_option maxHeartbeats 400000 in
theorem efind_any (es : List En) (a : Option Addr) (n c : Nat) (s : ByteArray) (w : World) (he : EntsAt w a n c es) (hr : Rise es) (hn : n≤1000000) :
  Calls Tryz.prog 225 #[.slice a n c,.string s] w fun e w'=>e=.returned (.int .i64 (entFind es s))∧Below w.heap.size w w':=by
 have hl:=he.len
 have HS:=Lib.hid (search_any es a n c s w he hr hn)
 cases hh : hasE es s
 ·rw [hh] at HS
  rw [has_find hh]
  go_enter Tryz.func225,Tryz.ntmps225
  go_wp2_with fail
  refine HS.out.mono ?_
  rintro e w1 ⟨rfl,hb1⟩
  go_wp2_with fail
  go_ret
  exact⟨rfl,hb1⟩
 ·rw [hh] at HS
  obtain⟨hk,hf,-⟩:=at_find hr hh
  rw [hf]
  obtain⟨b,off,rfl,hb⟩:=he.some_of (by omega)
  obtain⟨A,hA⟩ : ∃ A,entAt es s=A:=⟨_,rfl⟩
  simp only [hA] at hk HS ⊢
  obtain⟨x,hx⟩ : ∃ x,es[A]=x:=⟨_,rfl⟩
  rw [hx]
  have HE:=Lib.hid he
  clear hf hA he hh
  go_enter Tryz.func225,Tryz.ntmps225
  go_wp2_with fail
  refine HS.out.mono ?_
  rintro e w1 ⟨rfl,hb1⟩
  obtain⟨c1,c2⟩:=(HE.out.keep hb1).cell A hk
  rw [hx] at c1 c2
  go_wp2_with fail
  go_ret
  exact⟨rfl,hb1⟩
end Go.Proofs.YtihdbncoijhihaaGreatDoor
namespace Go.Proofs.YtihdbncoijhihaaGreatDoor
open Go.RowKit
section
variable {P : Program}
theorem run_copy_rowK (w : World) (dT sT ty elem : TypeId) (g o dLen dCap : Nat) (a : Addr) (sLen sCap : Nat) (cur : Array Value) (t : TypeId) (cs : List Value) (n sz : Nat)
  (hu : P.underlying dT=some (.slice elem)) (hs : (P.info? elem).map (·.size)=some sz)
  (hg : w.heap[g]? = some (.cells cur t (0,0))) (hm : Nat.min sLen dLen=n) (hn : cs.length=n * sz)
  (hsrc : ∀ j v,cs[j]? = some v→w.cell? (a.add j)=some v) (hfit : o + cs.length≤cur.size) (h1 : ∀ v ∈ cs,v.oneCell'=true) :
  (Builtin.copy_ #[dT,sT] ty #[.slice (some ⟨g,o,none⟩) dLen dCap,.slice (some a) sLen sCap]).run P w =
   .ok (goInt n) (w.setRow g (cur.toList.take o ++ cs ++ cur.toList.drop (o + cs.length)).toArray):=by
 have hl:=run_loadCells_list (P:=P) w a cs hsrc
 have hst:=run_storeCells_at P g o t cs 0 cur w hg (by simpa using hfit) h1
 cases hq : P.info? elem with
 | none=>simp [hq] at hs
 | some i=>
  have hi : i.size=sz:=by simpa [hq] using hs
  simp [Builtin.copy_,run_underlying hu,Builtin.lenOf,Builtin.firstCells,sizeOf,typeInfo,hq,hi,hm,← hn,hl,hst]
theorem wp_copy_run (w : World) {o : Oper} {a : Act} {K : Act→World→Prop} {Q : Exit→Act→World→Prop} (d s : Operand) (t t' : TypeId)
  (ho : o.op=.call { callee:=.builtin .copy,args:=#[d,s],argTypes:=#[t,t'] }) (v u : Value) (hd : a.eval d=v) (hs : a.eval s=u) {v' : Value} {w' : World}
  (hr : (Builtin.copy_ #[t,t'] o.type #[v,u]).run P w=.ok v' w') (h : K (a.put o.dst v') w') : o.wp P a w K Q:=by
 unfold Oper.wp execOp
 simp only [ho,resolve,invoke,builtin,Sem.run_bind,Sem.run_pure,Result.andThen_ok,List.map_toArray,List.map_cons,List.map_nil,hd,hs,hr]
 exact h
theorem wpList_copy_run (w : World) {ops : Array Oper} {rest : List Oper} {o : Oper} {a : Act} {Q : Exit→Act→World→Prop} (hgd : o.guard=none) (d s : Operand) (t t' : TypeId)
  (ho : o.op=.call { callee:=.builtin .copy,args:=#[d,s],argTypes:=#[t,t'] }) (v u : Value) (hd : a.eval d=v) (hs : a.eval s=u) {v' : Value} {w' : World}
  (hr : (Builtin.copy_ #[t,t'] o.type #[v,u]).run P w=.ok v' w') (h : wpList P ops Q rest (a.put o.dst v') w') : wpList P ops Q (o :: rest) a w:=
 wpList_plain hgd fun _ hK=>wp_copy_run w d s t t' ho v u hd hs hr (hK _ _ h)
theorem step_copy_run {ops : Array Oper} {o : Oper} {a : Act} {w : World} {K : Act→World→Prop} {Q : Exit→Act→World→Prop} {E : Prop}
  (hg : o.guard=none) (d x : Operand) (dT sT : TypeId) (hop : o.op=Op.call { callee:=Callee.builtin Builtin.copy,args:=#[d,x],argTypes:=#[dT,sT] })
  (v u : Value) (hd : a.eval d=v) (hx : a.eval x=u) {v' : Value} {w' : World} (hr : (Builtin.copy_ #[dT,sT] o.type #[v,u]).run P w=.ok v' w') (hK : K (a.put o.dst v') w') :
  if Region.wanted o (yielded ops a.tmps)=true then Oper.wp P o a w K Q else E:=by
 have hw : Region.wanted o (yielded ops a.tmps)=true:=by simp [Region.wanted,hg]
 rw [if_pos hw]
 unfold Oper.wp
 simp [execOp,hop,resolve,invoke,builtin,hd,hx,hr,Result.andThen]
 exact hK
end
theorem setRow_blk {w : World} {g : Nat} {cur vs : Array Value} {T : TypeId} (h : Blk w g cur T) : Blk (w.setRow g vs) g vs T:=setRow_heap w g cur vs T _ h
theorem setRow_mod (w : World) (g : Nat) (vs : Array Value) : Mod (fun k=>k=g) w (w.setRow g vs):=by
 refine ⟨rfl,rfl,rfl,by simp [World.setRow],fun k hk hs=>?_⟩
 simp only [World.setRow]
 rw [Array.getElem?_modify,if_neg (fun e=>hs e.symm)]
end Go.Proofs.YtihdbncoijhihaaGreatDoor
namespace Go.Proofs.YtihdbncoijhihaaGreatDoor
open Go.RowKit
theorem ent_info : (Tryz.prog.info? 113).map (fun i=>(i.zero,i.size,i.bytes))=some (some (.agg #[.string ByteArray.empty,.int .i64 0]),2,24):=by kernel_rfl
theorem entC_one (es : List En) : ∀ u ∈ es.flatMap entC,u.oneCell'=true:=by
 intro u hu
 obtain⟨x,-,hx⟩:=List.mem_flatMap.1 hu
 simp [entC] at hx
 rcases hx with rfl | rfl <;> rfl
theorem EntsAt.news {w : World} {b off n c : Nat} {es : List En} (h : EntsAt w (some ⟨b,off,none⟩) n c es) : ∀ j u,(es.flatMap entC)[j]? = some u→w.cell? ((⟨b,off,none⟩ : Addr).add j)=some u:=by
 intro j u hu
 have hlt : j < (es.flatMap entC).length:=(List.getElem?_eq_some_iff.1 hu).1
 rw [flat_len entC_len] at hlt
 have hm:=Nat.mod_lt j (show 0 < 2 by omega)
 have hdiv : j=j / 2 * 2 + j % 2:=by omega
 have hq : j / 2 < es.length:=by omega
 have h1:=flat_get entC_len es (j / 2) (j % 2) hq hm
 rw [← hdiv,hu] at h1
 obtain⟨c1,c2⟩:=h.cell (j / 2) hq
 rw [addr_add]
 rcases (show j % 2=0∨j % 2=1 by omega) with hr | hr
 ·rw [hr] at h1
  rw [show off + j=off + j / 2 * 2 by omega,c1]
  exact h1.symm
 ·rw [hr] at h1
  rw [show off + j=off + j / 2 * 2 + 1 by omega,c2]
  exact h1.symm
def OE (w : World) (base : Nat) (v : Value) (es : List En) : Prop:=w.ownsRow base 113 2 v es.length (es.flatMap entC)
theorem OE.at {w : World} {base c : Nat} {a : Option Addr} {es : List En} (h : OE w base (.slice a es.length c) es) : EntsAt w a es.length c es:=by
 refine ⟨own_slice (R:=entQ) (by omega) entC_len (fun _=>rfl) h,fun p hp=>?_⟩
 subst hp
 rcases h.2 with ⟨h1,-⟩ | ⟨g,cap,cur,h1,-,hg,-⟩
 ·cases h1
 ·injection h1 with h1
  injection h1 with h1
  exact⟨g,0,cur,h1,hg⟩
theorem OE.keep {w w' : World} {base : Nat} {v : Value} {es : List En} (h : OE w base v es) (hb : Below w.heap.size w w') : OE w' base v es:=own_below h hb (Nat.le_refl _)
set_option maxRecDepth 100000 in
set_option maxHeartbeats 400000 in
theorem eclone_any (es : List En) (a : Option Addr) (n c : Nat) (w : World) (he : EntsAt w a n c es) (hn : n≤1000000) :
  Calls Tryz.prog 310 #[.slice a n c] w fun e w'=>(∃ a' c',e=.returned (.slice a' n c')∧OE w' w.heap.size (.slice a' n c') es)∧Below w.heap.size w w':=by
 have hl:=he.len
 obtain⟨i0,hi,hz0,hz1,hz2⟩:=info_parts ent_info
 have hq : ∀ (w : World) (r : Option Addr) (n c : Nat),(binOp .eql 107 (.slice r n c) (.slice none 0 0)).run Tryz.prog w=.ok (.bool r.isNone) w:=fun w r n c=>Lib.run_eql_slice_nil w _ _ r n c 0 0 Tryz.underlying107
 cases a with
 | none=>
  have hn0 : n=0:=by
   rcases Nat.eq_zero_or_pos n with h | h
   ·exact h
   ·obtain ⟨b,off,h1,-⟩:=he.some_of h
    cases h1
  subst hn0
  obtain rfl : es=[]:=List.eq_nil_of_length_eq_zero hl
  have H:=Lib.hid (show OE w w.heap.size (.slice none 0 0) [] from World.ownsRow_nil _ _ _ _)
  clear he hl hi hz0 hz1 hz2
  go_enter Tryz.func310,Tryz.ntmps310
  go_wp2_with fail
  go_ret
  exact⟨⟨none,0,rfl,H.out⟩,Below.refl _ _⟩
 | some p=>
  obtain⟨b,off,cur,rfl,hblk⟩:=he.blk p rfl
  have he2:=he.keep ((Below.refl _ w).alloc (Nat.le_refl _) (.cells #[] 113))
  have hrun : ∃ a' c' W,(Builtin.append_ #[107,107] 107 #[.slice (some ⟨w.heap.size,0,none⟩) 0 0,.slice (some ⟨b,off,none⟩) n c]).run Tryz.prog (w.alloc (.cells #[] 113))=.ok (.slice a' n c') W∧
    OE W w.heap.size (.slice a' n c') es∧Below w.heap.size w W:=by
   obtain⟨g,cap,W,h1,h2,h3,h4⟩:=step_app_any (107) Tryz.underlying107 hi hz0 hz1 hz2 rfl (by omega) (own_empty (base:=w.heap.size) (sz:=2) (e:=113) w (Nat.le_refl _)) ⟨b,off,none⟩ n c (es.flatMap entC) (by rw [flat_len entC_len,hl]) he2.news (entC_one es) (by unfold maxLen;omega) (by omega) (by simp)
   refine ⟨some ⟨g,0,none⟩,cap,W,?_,?_,((Below.refl w.heap.size w).alloc (Nat.le_refl _) _).trans (h3.below (fun k hk=>by omega) (by simp))⟩
   ·rw [Nat.zero_add] at h1;exact h1
   ·rw [Nat.zero_add,List.nil_append] at h2;unfold OE;rw [hl];exact h2
  obtain⟨a',c',W,hrun,h2,h3⟩:=hrun
  have H:=Lib.hid (And.intro h2 h3)
  clear he he2 hblk h2 h3 hi hz0 hz1 hz2 hl
  go_enter Tryz.func310,Tryz.ntmps310
  go_wp2_with (at_builtin;refine wpList_app_run rfl rfl rfl rfl hrun ?_)
  go_ret
  exact⟨⟨a',c',rfl,H.out.1⟩,H.out.2⟩
end Go.Proofs.YtihdbncoijhihaaGreatDoor
