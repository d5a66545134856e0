import Derived.Test.YtbndfmkgamdgeaaGreatDoorSO1
import Derived.Test.YtbndfmkgamdgeaaGreatDoorSO2
import Derived.Test.YtbndfmkgamdgeaaGreatDoorSO5
import Derived.Test.YtbndfmkgamdgeaaGreatDoorSO6
import Derived.Test.YtbndfmkgamdgeaaGreatDoorSO8
import Derived.Test.YtbndfmkgamdgeaaGreatDoorSO10
import Derived.Test.YtbndfmkgamdgeaaGreatDoorSO13
import Derived.Test.YtbndfmkgamdgeaaGreatDoorSO14
import Derived.Test.YtbndfmkgamdgeaaGreatDoorSO17
import Derived.Test.YtbndfmkgamdgeaaGreatDoorSO21
import Derived.Test.YtbndfmkgamdgeaaGreatDoorSO24
import Derived.Test.YtbndfmkgamdgeaaGreatDoorSO25
import Derived.Test.YtbndfmkgamdgeaaGreatDoorSO28
import Derived.Test.YtbndfmkgamdgeaaGreatDoorSO36
import Derived.Test.YtbndfmkgamdgeaaGreatDoorSO37
import Derived.Test.YtbndfmkgamdgeaaGreatDoorSO38
set_option linter.unusedVariables false
set_option linter.unusedSimpArgs false
set_option maxRecDepth 100000
set_option maxHeartbeats 16000000
namespace Go.Proofs.YtbndfmkgamdgeaaGreatDoor
section
open Go.RowKit
attribute [local go_sem] Oper.semAt_some
def Sp.v (x:Sp):Value:=.agg #[.int .i64 x.dir,.string x.name,.int .i64 x.no,.int .i64 x.depth]
def stA (a:An):Value:=.agg #[.int .i64 a.no,.int .i64 a.dev,.int .i64 a.kind,.int .i64 a.mode,.int .i64 a.uid,.int .i64 a.gid,.int .i64 a.links,.int .i64 a.data.size,.int .i64 a.mtime,.int .i64 a.ctime]
theorem stV_Z (S:Fs) (k:Int):stV (S.get k)=stA (S.getZ k):=by
 cases hg:S.get k with
 | none=>rw [getZ_none hg];rfl
 | some a=>rw [getZ_some hg];rfl
theorem wfirst_results {tmps:Array Value} {W:World} {B:Nat} {x:Sp} {e:Int} (hb:Blk W B #[.int .i64 x.dir,.string x.name,.int .i64 x.no,.int .i64 x.depth] 113)
  (h8:tmps.getD 8 undef=.pointer (some ⟨B,0,none⟩)) (h9:tmps.getD 9 undef=.int .i64 e):(results Tryz.f90 tmps).run Tryz.prog W=.ok (.tuple #[x.v,.int .i64 e]) W:=by
 have q0:=hb.cell 0;have q1:=hb.cell 1;have q2:=hb.cell 2;have q3:=hb.cell 3;rw [Array.getD_eq_getD_getElem?] at h8 h9;simp [results,Tryz.results90,go_sem,Sp.v,h8,h9,q0,q1,q2,q3]
section
variable {w w':World} {pf pw:Nat} {R:Rp} {pv:Value} {Y:Sy}
theorem wfirst_any (h:SyAt w pf pw R pv Y) {N:Nat} (hk:FsOk Y.fs N) (hN:N≤999999) (c:Cr) (dir:Int) (n:ByteArray) :
  Calls Tryz.prog 90 #[.pointer (some ⟨pf,0,none⟩),.agg #[.int .i64 c.u,.int .i64 c.g],.int .i64 dir,.string n] w fun e w'=>e=.returned (.tuple #[(⟨dir,n,(Y.fs.lookF Y.dead c dir n).1,0⟩:Sp).v,.int .i64 (Y.fs.lookF Y.dead c dir n).2])∧Below w.heap.size w w':=by
 obtain⟨hC,hR,hb⟩:=boxes2 w #[.int .i64 c.u,.int .i64 c.g] #[.int .i64 0,.string ⟨#[]⟩,.int .i64 0,.int .i64 0] 54 113;have HL:=Lib.hid (fun w1 (hb1:Below w.heap.size w w1)=>slook_any (h.keep hb1) hk hN c dir n);generalize Y.fs.lookF Y.dead c dir n=rd at HL ⊢;obtain⟨k,e⟩:=rd;clear h hk;go_enter Tryz.func90,Tryz.ntmps90;go_upto_region 1 with fail;generalize (w.alloc (.cells #[.int .i64 c.u,.int .i64 c.g] 54)).alloc (.cells #[.int .i64 0,.string ⟨#[]⟩,.int .i64 0,.int .i64 0] 113)=X at hC hR hb ⊢;obtain⟨cc,cf,cz⟩:=hC.facts;have HR:=Lib.hid (And.intro hR hb);clear hC hR hb;go_wp2_with fail;refine (HL.out _ HR.out.2).mono ?_;rintro e' w1 ⟨rfl,hb1⟩;have hR1:=HR.out.1.keep hb1;have hB1:=bnext HR.out.2 hb1;have hX1:=Blk.new w1 #[.int .i64 dir,.string n,.int .i64 k,.int .i64 0] 113;have hbX:=balloc (Below.refl w1.heap.size w1) (.cells #[.int .i64 dir,.string n,.int .i64 k,.int .i64 0] 113);clear hb1 cc cf cz;go_upto_region 3 with fail;have hR2:=hR1.keep hbX;have hB2:=bnext hB1 hbX;generalize w1.alloc (.cells #[.int .i64 dir,.string n,.int .i64 k,.int .i64 0] 113)=w2 at hX1 hR2 hB2 ⊢;obtain⟨xc,xf,xz⟩:=hX1.facts;have H2:=Lib.hid (And.intro hR2 hB2);obtain⟨rc,rf,rz⟩:=hR2.facts;clear hR1 hB1 hbX hX1 hR2 hB2;go_wp2_with fail;exact bodyPost_ret (wfirst_results (x:=⟨dir,n,k,0⟩) H2.out.1.set4 rfl rfl) rfl ⟨rfl,below_set4 H2.out.2 (Nat.le_succ _)⟩
theorem sstatA_any (h:SyAt w pf pw R pv Y) {N:Nat} (hk:FsOk Y.fs N) (hd:Y.dead=false) (k:Int) :
  Calls Tryz.prog 43 #[.pointer (some ⟨pf,0,none⟩),.int .i64 k] w fun e w'=>e=.returned (.tuple #[.agg #[.int .i64 (Y.fs.getZ k).no,.int .i64 (Y.fs.getZ k).dev,.int .i64 (Y.fs.getZ k).kind,.int .i64 (Y.fs.getZ k).mode,.int .i64 (Y.fs.getZ k).uid,.int .i64 (Y.fs.getZ k).gid,.int .i64 (Y.fs.getZ k).links,.int .i64 (Y.fs.getZ k).data.size,.int .i64 (Y.fs.getZ k).mtime,.int .i64 (Y.fs.getZ k).ctime],.int .i64 (noneE (Y.fs.get k))])∧Below w.heap.size w w':=by
 have:=sstat_any h hk hd k;rw [stV_Z] at this;exact this
theorem list_bad {S:Fs} {c:Cr} {no:Int} (h:(S.listF false c no).2≠0):(S.listF false c no).1=[]:=by
 unfold Fs.listF at h ⊢;rw [if_neg (by decide)] at h ⊢
 split
 ·rfl
 ·rename_i h2;rw [if_neg h2] at h;exact absurd rfl h
theorem list_len {S:Fs} {N:Nat} (hk:FsOk S N) (c:Cr) (no:Int):(S.listF false c no).1.length≤N:=by
 unfold Fs.listF;rw [if_neg (by decide)]
 split
 ·exact Nat.zero_le _
 ·dsimp only;rw [List.length_map];unfold Fs.entsOf
  cases hg:S.get no with
  | none=>exact Nat.zero_le _
  | some a=>exact (hk.get hg).1.few
theorem OSp.base {w:World} {B B':Nat} {v:Value} {l:List Sp} (h:OSp w B v l) (hb:B'≤B):OSp w B' v l:=
 ⟨h.1,h.2.imp id fun ⟨g,cap,cur,h1,h2,h3⟩=>⟨g,cap,cur,h1,Nat.le_trans hb h2,h3⟩⟩
def spOf (no depth:Int) (y:En):Sp:=⟨no,y.name,y.no,wrap64 (depth+1)⟩
theorem winto_any (h:SyAt w pf pw R pv Y) {N:Nat} (hk:FsOk Y.fs N) (hN:N≤999999) (hd:Y.dead=false) (c:Cr) (x:Sp) :
  Calls Tryz.prog 91 #[.pointer (some ⟨pf,0,none⟩),.agg #[.int .i64 c.u,.int .i64 c.g],.agg #[.int .i64 x.dir,.string x.name,.int .i64 x.no,.int .i64 x.depth]] w fun e w'=>∃ v,e=.returned (.tuple #[v,.int .i64 (Y.fs.intoF c x).2])∧OSp w' w.heap.size v (Y.fs.intoF c x).1∧Below w.heap.size w w':=by
 obtain⟨dr,nm,no,dp⟩:=x;obtain⟨hC,hX,hb⟩:=boxes2 w #[.int .i64 c.u,.int .i64 c.g] #[.int .i64 dr,.string nm,.int .i64 no,.int .i64 dp] 54 113;have HS:=Lib.hid (fun w1 (hb1:Below w.heap.size w w1) k=>sstatA_any (h.keep hb1) hk hd k);have HL:=Lib.hid (fun w1 (hb1:Below w.heap.size w w1)=>slist_any (h.keep hb1) hk hN c no);rw [hd] at HL;have HL0:=Lib.hid (list_bad (S:=Y.fs) (c:=c) (no:=no));have HLn:=Lib.hid (list_len hk c no);have HI:=Lib.hid (show Y.fs.intoF c ⟨dr,nm,no,dp⟩=if noneE (Y.fs.get no)≠0 then ([],noneE (Y.fs.get no)) else if noneE (Y.fs.get dr)≠0 then ([],noneE (Y.fs.get dr))
  else if (Y.fs.getZ no).dev≠(Y.fs.getZ dr).dev then ([],16) else if (Y.fs.getZ no).kind≠1 then ([],0)
  else ((Y.fs.listF false c no).1.map (spOf no dp),(Y.fs.listF false c no).2) from rfl)
 have HS1:=Lib.hid (fun w1 hb1=>HS.out w1 hb1 no);have HS2:=Lib.hid (fun w1 hb1=>HS.out w1 hb1 dr);generalize Y.fs.intoF c ⟨dr,nm,no,dp⟩=rd at HI ⊢;generalize Y.fs.listF false c no=L at HL HL0 HLn HI;obtain⟨L,le⟩:=L;generalize noneE (Y.fs.get no)=e1 at HI HS1;generalize noneE (Y.fs.get dr)=e2 at HI HS2;generalize Y.fs.getZ no=a1 at HI HS1;generalize Y.fs.getZ dr=a2 at HI HS2;dsimp only at HL HL0 HLn HI;clear h hk HS;go_enter Tryz.func91,Tryz.ntmps91;go_upto_region 1 with fail;generalize (w.alloc (.cells #[.int .i64 c.u,.int .i64 c.g] 54)).alloc (.cells #[.int .i64 dr,.string nm,.int .i64 no,.int .i64 dp] 113)=X at hC hX hb ⊢;obtain⟨xc,xf,xz⟩:=hX.facts;have H0:=Lib.hid (And.intro hC (And.intro hX hb));clear hC hX hb;go_wp2_with fail;refine (HS1.out _ H0.out.2.2).mono ?_;rintro e w1 ⟨rfl,hb1⟩;have hA:=Blk.new w1 #[.int .i64 a1.no,.int .i64 a1.dev,.int .i64 a1.kind,.int .i64 a1.mode,.int .i64 a1.uid,.int .i64 a1.gid,.int .i64 a1.links,.int .i64 a1.data.size,.int .i64 a1.mtime,.int .i64 a1.ctime] 115;have hbA:=balloc hb1 (.cells #[.int .i64 a1.no,.int .i64 a1.dev,.int .i64 a1.kind,.int .i64 a1.mode,.int .i64 a1.uid,.int .i64 a1.gid,.int .i64 a1.links,.int .i64 a1.data.size,.int .i64 a1.mtime,.int .i64 a1.ctime] 115);clear xc xf xz;go_upto_region 2 with fail;generalize w1.alloc (.cells #[.int .i64 a1.no,.int .i64 a1.dev,.int .i64 a1.kind,.int .i64 a1.mode,.int .i64 a1.uid,.int .i64 a1.gid,.int .i64 a1.links,.int .i64 a1.data.size,.int .i64 a1.mtime,.int .i64 a1.ctime] 115)=w2 at hA hbA ⊢;generalize w1.heap.size=ba at hA ⊢;have hX2:=H0.out.2.1.keep hbA;have H2:=Lib.hid (And.intro (H0.out.1.keep hbA) (And.intro hX2 (And.intro hA (bnext H0.out.2.2 hbA))));obtain⟨xc,xf,xz⟩:=hX2.facts;clear hA hbA hb1 hX2;go_wp2_with fail;refine (HS2.out _ H2.out.2.2.2).mono ?_;rintro e w3 ⟨rfl,hb3⟩;have hB:=Blk.new w3 #[.int .i64 a2.no,.int .i64 a2.dev,.int .i64 a2.kind,.int .i64 a2.mode,.int .i64 a2.uid,.int .i64 a2.gid,.int .i64 a2.links,.int .i64 a2.data.size,.int .i64 a2.mtime,.int .i64 a2.ctime] 115;have hbB:=balloc hb3 (.cells #[.int .i64 a2.no,.int .i64 a2.dev,.int .i64 a2.kind,.int .i64 a2.mode,.int .i64 a2.uid,.int .i64 a2.gid,.int .i64 a2.links,.int .i64 a2.data.size,.int .i64 a2.mtime,.int .i64 a2.ctime] 115);clear xc xf xz;go_upto_region 3 with fail;generalize w3.alloc (.cells #[.int .i64 a2.no,.int .i64 a2.dev,.int .i64 a2.kind,.int .i64 a2.mode,.int .i64 a2.uid,.int .i64 a2.gid,.int .i64 a2.links,.int .i64 a2.data.size,.int .i64 a2.mtime,.int .i64 a2.ctime] 115)=w4 at hB hbB ⊢;generalize w3.heap.size=bb at hB ⊢;have hA4:=H2.out.2.2.1.keep hbB;have hX4:=H2.out.2.1.keep hbB;have hC4:=H2.out.1.keep hbB;have H4:=Lib.hid (And.intro hC4 (And.intro hX4 (bnext H2.out.2.2.2 hbB)));obtain⟨xc,xf,xz⟩:=hX4.facts;obtain⟨ac,af,az⟩:=hA4.facts;obtain⟨bc,bf,bz⟩:=hB.facts;obtain⟨cc,cf,cz⟩:=hC4.facts;clear hA4 hX4 hC4 hB hbB hb3;by_cases h1:e1≠0
 ·have hE:=HI.out;rw [if_pos h1] at hE;subst hE;have hv:(e1 != 0)=true:=by simpa using h1
  clear h1;go_wp2_with fail;go_ret2;exact⟨_,rfl,OSp.nil _ _,H4.out.2.2⟩
 ·have hv:(e1 != 0)=false:=by simpa using h1
  by_cases h2:e2≠0
  ·have hE:=HI.out;rw [if_neg h1,if_pos h2] at hE;subst hE;have hv2:(e2 != 0)=true:=by simpa using h2
   clear h1 h2;go_wp2_with fail;go_ret2;exact⟨_,rfl,OSp.nil _ _,H4.out.2.2⟩
  ·have hv2:(e2 != 0)=false:=by simpa using h2
   by_cases h3:a1.dev≠a2.dev
   ·have hE:=HI.out;rw [if_neg h1,if_neg h2,if_pos h3] at hE;subst hE;have hv3:(a1.dev != a2.dev)=true:=by simpa using h3
    clear h1 h2 h3;go_wp2_with fail;go_ret2;exact⟨_,rfl,OSp.nil _ _,H4.out.2.2⟩
   ·have hv3:(a1.dev != a2.dev)=false:=by simpa using h3
    by_cases h4:a1.kind≠1
    ·have hE:=HI.out;rw [if_neg h1,if_neg h2,if_neg h3,if_pos h4] at hE;subst hE;have hv4:(a1.kind != 1)=true:=by simpa using h4
     clear h1 h2 h3 h4;go_wp2_with fail;go_ret2;exact⟨_,rfl,OSp.nil _ _,H4.out.2.2⟩
    ·have hv4:(a1.kind != 1)=false:=by simpa using h4
     have hE:=HI.out;rw [if_neg h1,if_neg h2,if_neg h3,if_neg h4] at hE;subst hE;clear h1 h2 h3 h4;go_wp2_with fail;refine (HL.out _ H4.out.2.2).mono ?_;rintro e w5 ⟨lv,rfl,hO,hb5⟩;have HX5:=Lib.hid (H4.out.2.1.keep hb5);have HB4:=Lib.hid H4.out.2.2.size;have hx4:=H4.out.2.1.lt;have h45:=hb5.size;have HB5:=Lib.hid (bnext H4.out.2.2 hb5);have HO5:=Lib.hid hO;clear xc xf xz ac af az bc bf bz cc cf cz hb5 hO;by_cases h5:le≠0
     ·have hv5:(le != 0)=true:=by simpa using h5
      have hL:=HL0.out h5;subst hL;clear h5;go_wp2_with fail;go_ret2;exact⟨_,rfl,OSp.nil _ _,HB5.out⟩
     ·obtain rfl:le=0:=by simpa using h5
      clear h5;obtain⟨a,ca,rfl,-⟩:=own_form HO5.out;go_wp2_with fail
      go_loopw [13,61] (fun t13 t61 wr=>∃ k:Nat,k≤L.length∧t61=.int .i64 k∧OSp wr w4.heap.size t13 ((L.take k).map (spOf no dp))∧OE wr w4.heap.size (.slice a L.length ca) L∧Blk wr (w.heap.size+1) #[.int .i64 dr,.string nm,.int .i64 no,.int .i64 dp] 113∧Below w.heap.size w wr∧w5.heap.size≤wr.heap.size) (fun _ t61 _=>L.length - (intOf t61).toNat)
      case atStart=>exact ⟨0,Nat.zero_le _,rfl,OSp.nil _ _,HO5.out,HX5.out,HB5.out,Nat.le_refl _⟩
      case round=>
       obtain⟨k,hkl,rfl,hO1,hE1,hX1,hB1,h5r⟩:=hrel;by_cases hlt:k<L.length
       ·obtain ⟨b,off,rfl,hbl⟩:=(OE.at hE1).some_of (by omega);obtain⟨c1,c2⟩:=(OE.at hE1).cell k hlt;obtain⟨y,hy⟩:∃ y,L[k]=y:=⟨_,rfl⟩;rw [hy] at c1 c2;have hY:=Blk.new wr #[.string y.name,.int .i64 y.no] 92;have hbY:=(Below.refl wr.heap.size wr).alloc (Nat.le_refl _) (.cells #[.string y.name,.int .i64 y.no] 92);go_upto_region 18 with fail;generalize wr.alloc (.cells #[.string y.name,.int .i64 y.no] 92)=V at hY hbY ⊢;have hO2:=hO1.keep hbY;have hE2:=OE.keep hE1 hbY;have hX2:=hX1.keep hbY;have hB2:=bnext hB1 hbY;have hbV:=hbY;generalize hyb:wr.heap.size=yb at hY ⊢;obtain⟨yc,yf,yz⟩:=hY.facts;obtain⟨xc,xf,xz⟩:=hX2.facts;have hlen:((L.take k).map (spOf no dp)).length=k:=by rw [List.length_map,List.length_take];omega
        have h4V:w4.heap.size≤V.heap.size:=by have:=hbV.size;omega
        obtain⟨g,cap,W,hr,hO3,hM3⟩:=hO2.app (spOf no dp y) (by have:=HLn.out;omega) h4V;rw [hlen] at hr hO3;have htk:(L.take k).map (spOf no dp) ++ [spOf no dp y]=(L.take (k+1)).map (spOf no dp):=by
         rw [List.take_succ_eq_append_getElem hlt,List.map_append,hy];rfl
        rw [htk] at hO3;have HA:=Lib.hid hr;have HLt:=Lib.hid hlt;have hk9:k≤999999:=by have:=HLn.out;omega
        have HW:=Lib.hid (And.intro hO3 (And.intro (own_mod hE2 hM3 (fun q hq=>own_apart hO2 hE2 (by decide) hq)) (And.intro (hX2.mod hM3 (fun hq=>by have:=(own_obj1 hO2 hq).1;omega))
         (And.intro (hB2.trans (hM3.below (fun q hq=>Nat.le_trans HB4.out (own_obj1 hO2 hq).1) hB2.size)) (Nat.le_trans h5r (Nat.le_trans hbV.size hM3.size))))))
        clear hr hO3 hO2 hE2 hX2 hB2 hM3 htk hlen;go_wp2_with (at_builtin;refine wpList_app_run rfl rfl rfl rfl HA.out ?_);go_roundw
        case rel=>exact ⟨k+1,by have:=HLt.out;omega,by go_num,HW.out.1,HW.out.2.1,HW.out.2.2.1,HW.out.2.2.2.1,HW.out.2.2.2.2⟩
        case measure=>
         have:=HLt.out;simp [intOf];omega
       ·obtain rfl:k=L.length:=by omega
        have HO9:=Lib.hid hO1;have HB9:=Lib.hid hB1;clear hO1 hE1 hX1 hB1;go_wp2_with fail;go_ret2;refine ⟨_,rfl,?_,HB9.out⟩;have:=HO9.out;rw [List.take_length] at this;exact this.base HB4.out
end
end
end Go.Proofs.YtbndfmkgamdgeaaGreatDoor
