import Derived.Test.YtbndfmkgamdgeaaGreatDoorSO1
import Derived.Test.YtbndfmkgamdgeaaGreatDoorSO2
import Derived.Test.YtbndfmkgamdgeaaGreatDoorSO5
import Derived.Test.YtbndfmkgamdgeaaGreatDoorSO6
import Derived.Test.YtbndfmkgamdgeaaGreatDoorSO7
import Derived.Test.YtbndfmkgamdgeaaGreatDoorSO8
import Derived.Test.YtbndfmkgamdgeaaGreatDoorSO10
import Derived.Test.YtbndfmkgamdgeaaGreatDoorSO11
import Derived.Test.YtbndfmkgamdgeaaGreatDoorSO13
import Derived.Test.YtbndfmkgamdgeaaGreatDoorSO14
import Derived.Test.YtbndfmkgamdgeaaGreatDoorSO16
import Derived.Test.YtbndfmkgamdgeaaGreatDoorSO17
import Derived.Test.YtbndfmkgamdgeaaGreatDoorSO18
import Derived.Test.YtbndfmkgamdgeaaGreatDoorSO19
import Derived.Test.YtbndfmkgamdgeaaGreatDoorSO21
import Derived.Test.YtbndfmkgamdgeaaGreatDoorSO23
import Derived.Test.YtbndfmkgamdgeaaGreatDoorSO24
import Derived.Test.YtbndfmkgamdgeaaGreatDoorSO25
import Derived.Test.YtbndfmkgamdgeaaGreatDoorSO28
import Derived.Test.YtbndfmkgamdgeaaGreatDoorSO29
import Derived.Test.YtbndfmkgamdgeaaGreatDoorSO30
import Derived.Test.YtbndfmkgamdgeaaGreatDoorSO32
import Derived.Test.YtbndfmkgamdgeaaGreatDoorSO33
import Derived.Test.YtbndfmkgamdgeaaGreatDoorSO34
import Derived.Test.YtbndfmkgamdgeaaGreatDoorSO35
import Derived.Test.YtbndfmkgamdgeaaGreatDoorSO38
import Derived.Test.YtbndfmkgamdgeaaGreatDoorSO39
import Derived.Test.YtbndfmkgamdgeaaGreatDoorSO40
import Derived.Test.YtbndfmkgamdgeaaGreatDoorSO43
set_option linter.unusedVariables false
set_option linter.unusedSimpArgs false
set_option maxRecDepth 100000
set_option maxHeartbeats 16000000
namespace Go.Proofs.YtbndfmkgamdgeaaGreatDoor
section
open Go.RowKit
section
variable {S:Fs} {it:It} {x:Fd} {e:Int}
theorem node_err (hx:S.path c00 it.path false=(x,e)) (h:e≠0):nodeF S it=(S,0):=by unfold nodeF;rw [hx];simp only;rw [if_pos h]
theorem node_old (hx:S.path c00 it.path false=(x,e)) (h:e=0) (h0:x.no≠0) (h1:it.kind=1) (h2:S.kindOf x.no=1):nodeF S it=(S,x.no):=by unfold nodeF;rw [hx];simp only;rw [if_neg (by simp [h]),if_pos h0,if_pos ⟨h1,h2⟩]
theorem node_had (hx:S.path c00 it.path false=(x,e)) (h:e=0) (h0:x.no≠0) (h1:¬ (it.kind=1∧S.kindOf x.no=1)):nodeF S it=(S,0):=by unfold nodeF;rw [hx];simp only;rw [if_neg (by simp [h]),if_pos h0,if_neg h1]
theorem node_new (hx:S.path c00 it.path false=(x,e)) (h:e=0) (h0:x.no=0):nodeF S it =
  (if it.kind=1 then ((S.mkdir c00 0 x.dir x.name 493).1,(S.mkdir c00 0 x.dir x.name 493).2.1)
 else if it.kind=2 then ((S.file c00 0 x.dir x.name 420 it.data).1,(S.file c00 0 x.dir x.name 420 it.data).2.1)
 else if it.kind=3 then ((S.sym c00 0 x.dir x.name it.data).1,(S.sym c00 0 x.dir x.name it.data).2.1)
 else if it.kind=4 then
  (if (S.path c00 it.data false).2=0 then ((S.hard c00 0 (S.path c00 it.data false).1.no x.dir x.name).1,0) else (S,0))
 else (S,0)):=by unfold nodeF;rw [hx];simp only;rw [if_neg (by simp [h]),if_neg (by simp [h0])]
theorem stV_cells (S:Fs) (k:Int):∃ y0 y1 y2 y3 y4 y5 y6 y7 y8 y9:Int,stV (S.get k)=.agg #[.int .i64 y0,.int .i64 y1,.int .i64 y2,.int .i64 y3,.int .i64 y4,.int .i64 y5,.int .i64 y6,.int .i64 y7,.int .i64 y8,.int .i64 y9]∧y2=S.kindOf k:=by
 unfold Fs.kindOf
 cases S.get k with
 | none=>exact ⟨_,_,_,_,_,_,_,_,_,_,rfl,rfl⟩
 | some a=>exact ⟨_,_,_,_,_,_,_,_,_,_,rfl,rfl⟩
end
section
variable {w w':World} {pf pw:Nat} {R:Rp} {pv:Value} {Y:Sy}
theorem snode_any (h:SyAt w pf pw R pv Y) {N:Nat} (hk:FsOk Y.fs N) (hN:N≤999990) (hc:Calm Y) (hcc:Y.count≤4000000) (it:It) (hp:it.path.size≤100000) (hd:it.data.size≤100000) :
  Calls Tryz.prog 49 #[.pointer (some ⟨pf,0,none⟩),.agg #[.string it.path,.int .i64 it.kind,.int .i64 it.mode,.int .i64 it.uid,.int .i64 it.gid,.int .i64 it.mtime,.string it.data]] w fun e w'=>e=.returned (.int .i64 (nodeF Y.fs it).2)∧Became w w' pf pw R pv Y (nodeF Y.fs it).1 1:=by
 have HY:=Lib.hid h;have HK:=Lib.hid hk;have HC:=Lib.hid hc;have HF:=Lib.hid (fun w1 (hb1:Below w.heap.size w w1)=>sfind_any (h.keep hb1) hk (by omega) hc.dead c00 it.path hp false);have HSz:=Lib.hid (path_size hk c00 it.path (by omega) false);generalize hx:Y.fs.path c00 it.path false=x at HF HSz;obtain⟨⟨xd,xn,xk,xs⟩,xe⟩:=x;have HPx:=Lib.hid hx;unfold Fd.v at HF;obtain⟨y0,y1,y2,y3,y4,y5,y6,y7,y8,y9,hst,hy2⟩:=stV_cells Y.fs xk;have HSt:=Lib.hid (fun w1 (hb1:Below w.heap.size w w1)=>sstat_any (h.keep hb1) hk hc.dead xk);rw [hst] at HSt;have HKo:=Lib.hid hy2;have hI0:=Blk.new w #[.string it.path,.int .i64 it.kind,.int .i64 it.mode,.int .i64 it.uid,.int .i64 it.gid,.int .i64 it.mtime,.string it.data] 73;have hb0:=balloc (Below.refl w.heap.size w) (.cells #[.string it.path,.int .i64 it.kind,.int .i64 it.mode,.int .i64 it.uid,.int .i64 it.gid,.int .i64 it.mtime,.string it.data] 73);clear h hk hc hx hst hy2;go_enter Tryz.func49,Tryz.ntmps49;go_wp2_with fail;refine (HF.out _ hb0).mono ?_;rintro e w1 ⟨rfl,hb1⟩;have hIX:=(hI0.keep hb1).old (.cells #[.int .i64 xd,.string xn,.int .i64 xk,.bool xs] 189);have hXX:=Blk.new w1 #[.int .i64 xd,.string xn,.int .i64 xk,.bool xs] 189;have hbX:=balloc (bnext hb0 hb1) (.cells #[.int .i64 xd,.string xn,.int .i64 xk,.bool xs] 189);clear hI0 hb0 hb1;go_upto_region 2 with fail;generalize w1.alloc (.cells #[.int .i64 xd,.string xn,.int .i64 xk,.bool xs] 189)=X at hIX hXX hbX ⊢;have HIX:=Lib.hid hIX;have HXX:=Lib.hid hXX;have HBX:=Lib.hid hbX;obtain⟨xc,xf,xz⟩:=hXX.facts;clear hIX hXX hbX;go_wp2_with fail;refine (HSt.out _ HBX.out).mono ?_;rintro e w2 ⟨rfl,hb2⟩;have hI2:=(HIX.out.keep hb2).old (.cells #[.int .i64 y0,.int .i64 y1,.int .i64 y2,.int .i64 y3,.int .i64 y4,.int .i64 y5,.int .i64 y6,.int .i64 y7,.int .i64 y8,.int .i64 y9] 115);have hX2:=(HXX.out.keep hb2).old (.cells #[.int .i64 y0,.int .i64 y1,.int .i64 y2,.int .i64 y3,.int .i64 y4,.int .i64 y5,.int .i64 y6,.int .i64 y7,.int .i64 y8,.int .i64 y9] 115);have hS2:=Blk.new w2 #[.int .i64 y0,.int .i64 y1,.int .i64 y2,.int .i64 y3,.int .i64 y4,.int .i64 y5,.int .i64 y6,.int .i64 y7,.int .i64 y8,.int .i64 y9] 115;have hbZ:=balloc (bnext HBX.out hb2) (.cells #[.int .i64 y0,.int .i64 y1,.int .i64 y2,.int .i64 y3,.int .i64 y4,.int .i64 y5,.int .i64 y6,.int .i64 y7,.int .i64 y8,.int .i64 y9] 115);clear hb2 xc xf xz;go_upto_region 3 with fail;generalize w2.alloc (.cells #[.int .i64 y0,.int .i64 y1,.int .i64 y2,.int .i64 y3,.int .i64 y4,.int .i64 y5,.int .i64 y6,.int .i64 y7,.int .i64 y8,.int .i64 y9] 115)=Z at hI2 hX2 hS2 hbZ ⊢;have HI2:=Lib.hid hI2;have HX2:=Lib.hid hX2;have HBZ:=Lib.hid hbZ;have HYZ:=Lib.hid (HY.out.keep hbZ);obtain⟨ic,if',iz⟩:=hI2.facts;obtain⟨xc,xf,xz⟩:=hX2.facts;obtain⟨sc,sf,sz⟩:=hS2.facts;clear hI2 hX2 hS2 hbZ;by_cases he:xe=0
 ·have heb:(xe != 0)=false:=by simpa using he
  subst he;by_cases hno:xk=0
  ·have hnb:(xk != 0)=false:=by simpa using hno
   have HN:=Lib.hid (node_new HPx.out rfl hno);dsimp only at HN;clear hno;by_cases k1:it.kind=1
   ·have k1b:(it.kind == 1)=true:=by simpa using k1
    have HQ:=Lib.hid k1;clear k1;have HE:=Lib.hid (HN.out.trans (if_pos HQ.out));have HM:=Lib.hid (smkdir_any HYZ.out HK.out (by omega) ⟨HC.out.c0,by omega⟩ (by rw [HC.out.plan];exact Nat.zero_le _) c00 xd xn 493 (by have h9:xn.size≤1048576:=HSz.out;omega));rw [HC.out.op] at HM;dsimp only at HM;go_wp2_with fail;refine HM.out.mono ?_;rintro e w5 ⟨rfl,R5,hY5,hS5⟩;have HX:=Lib.hid (And.intro hY5 ((Stp.of_below (F:=R.Y pf pw) HBZ.out).trans hS5));clear hY5 hS5;go_wp2_with fail;go_ret;rw [HE.out];exact⟨rfl,R5,_,HX.out.1,rfl,HC.out.next _,by show Y.count+1≤_;omega,HX.out.2⟩
   have k1b:(it.kind == 1)=false:=by simpa using k1
   have HN1:=Lib.hid (HN.out.trans (if_neg k1));clear k1 HN;by_cases k2:it.kind=2
   ·have k2b:(it.kind == 2)=true:=by simpa using k2
    have HQ:=Lib.hid k2;clear k2;have HE:=Lib.hid (HN1.out.trans (if_pos HQ.out));have HM:=Lib.hid (screate_any HYZ.out HK.out (by omega) ⟨HC.out.c0,by omega⟩ (by rw [HC.out.plan];exact Nat.zero_le _) c00 xd xn 420 it.data (by have h9:xn.size≤1048576:=HSz.out;omega) (by omega));rw [HC.out.op] at HM;dsimp only at HM;go_wp2_with fail;refine HM.out.mono ?_;rintro e w5 ⟨rfl,R5,hY5,hS5⟩;have HX:=Lib.hid (And.intro hY5 ((Stp.of_below (F:=R.Y pf pw) HBZ.out).trans hS5));clear hY5 hS5;go_wp2_with fail;go_ret;rw [HE.out];exact⟨rfl,R5,_,HX.out.1,rfl,HC.out.next _,by show Y.count+1≤_;omega,HX.out.2⟩
   have k2b:(it.kind == 2)=false:=by simpa using k2
   have HN2:=Lib.hid (HN1.out.trans (if_neg k2));clear k2 HN1;by_cases k3:it.kind=3
   ·have k3b:(it.kind == 3)=true:=by simpa using k3
    have HQ:=Lib.hid k3;clear k3;have HE:=Lib.hid (HN2.out.trans (if_pos HQ.out));have HM:=Lib.hid (ssym_any HYZ.out HK.out (by omega) ⟨HC.out.c0,by omega⟩ (by rw [HC.out.plan];exact Nat.zero_le _) c00 xd xn it.data (by have h9:xn.size≤1048576:=HSz.out;omega) (by omega));rw [HC.out.op] at HM;dsimp only at HM;go_wp2_with fail;refine HM.out.mono ?_;rintro e w5 ⟨rfl,R5,hY5,hS5⟩;have HX:=Lib.hid (And.intro hY5 ((Stp.of_below (F:=R.Y pf pw) HBZ.out).trans hS5));clear hY5 hS5;go_wp2_with fail;go_ret;rw [HE.out];exact⟨rfl,R5,_,HX.out.1,rfl,HC.out.next _,by show Y.count+1≤_;omega,HX.out.2⟩
   have k3b:(it.kind == 3)=false:=by simpa using k3
   have HN3:=Lib.hid (HN2.out.trans (if_neg k3));clear k3 HN2;by_cases k4:it.kind=4
   ·have k4b:(it.kind == 4)=true:=by simpa using k4
    have HN4:=Lib.hid (HN3.out.trans (if_pos k4));have HF2:=Lib.hid (sfind_any HYZ.out HK.out (by omega) HC.out.dead c00 it.data hd false);generalize Y.fs.path c00 it.data false=y at HF2 HN4;obtain⟨⟨yd,yn,yk,ys⟩,ye⟩:=y;unfold Fd.v at HF2;dsimp only at HN4;clear k4 HN3;go_wp2_with fail;refine HF2.out.mono ?_;rintro e w3 ⟨rfl,hb3⟩;have hX3:=(HX2.out.keep hb3).old (.cells #[.int .i64 yd,.string yn,.int .i64 yk,.bool ys] 189);have hV3:=Blk.new w3 #[.int .i64 yd,.string yn,.int .i64 yk,.bool ys] 189;have hbV:=balloc (bnext HBZ.out hb3) (.cells #[.int .i64 yd,.string yn,.int .i64 yk,.bool ys] 189);clear hb3 ic if' iz xc xf xz sc sf sz;go_upto_region 19 with fail;generalize w3.alloc (.cells #[.int .i64 yd,.string yn,.int .i64 yk,.bool ys] 189)=V at hX3 hV3 hbV ⊢;have HBV:=Lib.hid hbV;have HYV:=Lib.hid (HY.out.keep hbV);obtain⟨xc,xf,xz⟩:=hX3.facts;obtain⟨vc,vf,vz⟩:=hV3.facts;clear hX3 hV3 hbV;by_cases hye:ye=0
    ·have hyb:(ye == 0)=true:=by simpa using hye
     have HE:=Lib.hid (HN4.out.trans (if_pos hye));have HM:=Lib.hid (slink_any HYV.out HK.out (by omega) ⟨HC.out.c0,by omega⟩ (by rw [HC.out.plan];exact Nat.zero_le _) c00 yk xd xn (by have h9:xn.size≤1048576:=HSz.out;omega));rw [HC.out.opE] at HM;dsimp only at HM;clear hye;go_wp2_with fail;refine HM.out.mono ?_;rintro e w5 ⟨rfl,R5,hY5,hS5⟩;have HX:=Lib.hid (And.intro hY5 ((Stp.of_below (F:=R.Y pf pw) HBV.out).trans hS5));clear hY5 hS5;go_wp2_with fail;go_ret;rw [HE.out];exact⟨rfl,R5,_,HX.out.1,rfl,HC.out.next _,by show Y.count+1≤_;omega,HX.out.2⟩
    ·have hyb:(ye == 0)=false:=by simpa using hye
     have HE:=Lib.hid (HN4.out.trans (if_neg hye));clear hye;go_wp2_with fail;go_ret;rw [HE.out];exact⟨rfl,(Became.same HY.out HC.out HBV.out).mono (by omega)⟩
   have k4b:(it.kind == 4)=false:=by simpa using k4
   have HN4:=Lib.hid (HN3.out.trans (if_neg k4));clear k4 HN3;have HE:=Lib.hid (HN4.out);go_wp2_with fail;go_ret;rw [HE.out];exact⟨rfl,(Became.same HY.out HC.out HBZ.out).mono (by omega)⟩
  ·have hnb:(xk != 0)=true:=by simpa using hno
   by_cases k1:it.kind=1
   ·have k1b:(it.kind == 1)=true:=by simpa using k1
    by_cases k2:y2=1
    ·have k2b:(y2 == 1)=true:=by simpa using k2
     have HQ:=Lib.hid (node_old HPx.out rfl hno k1 (by rw [←HKo.out];exact k2));clear hno k1 k2;have HE:=Lib.hid (HQ.out);go_wp2_with fail;go_ret;rw [HE.out];exact⟨rfl,(Became.same HY.out HC.out HBZ.out).mono (by omega)⟩
    ·have k2b:(y2 == 1)=false:=by simpa using k2
     have HQ:=Lib.hid (node_had HPx.out rfl hno (fun h=>k2 (by rw [HKo.out];exact h.2)));clear hno k1 k2;have HE:=Lib.hid (HQ.out);go_wp2_with fail;go_ret;rw [HE.out];exact⟨rfl,(Became.same HY.out HC.out HBZ.out).mono (by omega)⟩
   ·have k1b:(it.kind == 1)=false:=by simpa using k1
    have HQ:=Lib.hid (node_had HPx.out rfl hno (fun h=>k1 h.1));clear hno k1;have HE:=Lib.hid (HQ.out);go_wp2_with fail;go_ret;rw [HE.out];exact⟨rfl,(Became.same HY.out HC.out HBZ.out).mono (by omega)⟩
 ·have heb:(xe != 0)=true:=by simpa using he
  have HQ:=Lib.hid (node_err HPx.out he);clear he;have HE:=Lib.hid (HQ.out);go_wp2_with fail;go_ret;rw [HE.out];exact⟨rfl,(Became.same HY.out HC.out HBZ.out).mono (by omega)⟩
end
end
section
open Go.RowKit
def encI (k:Int):List Value:=[.int .i64 k]
theorem encI_len (k:Int):(encI k).length=1:=rfl
def OI (w:World) (base:Nat) (v:Value) (l:List Int):Prop:=w.ownsRow base 3 1 v l.length (l.flatMap encI)
theorem int_info:(Tryz.prog.info? 3).map (fun i=>(i.zero,i.size,i.bytes))=some (some (.int .i64 0),1,8):=by kernel_rfl
theorem OI.app {w:World} {base:Nat} {v:Value} {l:List Int} (h:OI w base v l) (k:Int) (hl:l.length≤1000000) (hb:base≤w.heap.size) :
  ∃ g cap W,(Builtin.append_ #[118,118] 118 #[v,.slice (some ⟨w.heap.size,0,none⟩) 1 1]).run Tryz.prog (w.alloc (.cells #[.int .i64 k] 3))=.ok (.slice (some ⟨g,0,none⟩) (l.length+1) cap) W∧
   OI W base (.slice (some ⟨g,0,none⟩) (l.length+1) cap) (l ++ [k])∧Mod (fun j=>v.ownBlock=some j) w W:=by
 obtain⟨i0,hi,hz0,hz1,hz2⟩:=info_parts int_info;have ho:=World.ownsRow.alloc h (.cells #[.int .i64 k] 3);obtain⟨g,cap,W,h1,h2,h3,h4⟩:=step_app 118 Tryz.underlying118 hi hz0 hz1 hz2 rfl (by omega) ho ⟨w.heap.size,0,none⟩ 1 1 [.int .i64 k] rfl (World.news_of_block (Blk.new w #[.int .i64 k] 3)) (by intro u hu;simp at hu;subst hu;rfl) (by omega) (by unfold maxLen;omega) (by omega) (by simp;omega);refine ⟨g,cap,W,h1,?_,((Mod.refl (fun j=>v.ownBlock=some j) w).alloc (.cells #[.int .i64 k] 3)).trans h3⟩;unfold OI;rw [List.length_append,List.length_singleton,List.flatMap_append];exact h2
theorem OI.cell {w:World} {base g cap:Nat} {l:List Int} (h:OI w base (.slice (some ⟨g,0,none⟩) l.length cap) l) (k:Nat) (hk:k<l.length):w.cell? ⟨g,k,none⟩=some (.int .i64 l[k]):=by
 obtain⟨-,-,-,h0 | ⟨b,off,he,hb,hel⟩⟩:=own_slice (R:=fun cs x=>cs=encI x) (by omega) encI_len (fun _=>rfl) h
 ·omega
 ·injection he with he;injection he with e1 e2;subst e1 e2;obtain⟨cs,h1,h2,h3⟩:=hel k hk;subst h2;have:=h3 0 (by simp [encI]);simpa [encI] using this
section
variable {w w':World} {pf pw:Nat} {R:Rp} {pv:Value} {Y:Sy}
theorem OI.sy {base:Nat} {v:Value} {l:List Int} (ho:OI w base v l) (h:SyAt w pf pw R pv Y) {F':Nat→Prop} (hs:Stp (R.Y pf pw) F' w w'):OI w' base v l:=
 own_mod ho hs.mod (fun k hk he=>by
  obtain⟨-,cur,hc⟩:=own_obj1 ho he;have hb:Blk w k cur 3:=hc;rcases hk with rfl | hk
  ·have h1:=h.blk;unfold Blk at hb h1;rw [hb] at h1
   cases h1
  ·obtain ⟨o,ho,hd⟩:=h.wd.kind hk;rw [hc] at ho;injection ho with ho;subst ho
   cases hd)
theorem SyAt.oi (h:SyAt w pf pw R pv Y) {base:Nat} {v:Value} {l:List Int} (ho:OI w base v l) (hm:Mod (fun j=>v.ownBlock=some j) w w'):SyAt w' pf pw R pv Y:=by
 refine ⟨h.blk.mod hm (fun e=>?_),h.wd.mod hm (fun k o hk hk2=>?_),own_mod h.plan hm (fun k hk he=>?_)⟩
 ·obtain ⟨-,cur,hc⟩:=own_obj1 ho e;have hq:=h.blk;unfold Blk at hq;rw [hc] at hq
  cases hq
 ·obtain ⟨-,cur,hc⟩:=own_obj1 ho hk;rw [hc] at hk2;injection hk2 with hk2;subst hk2;exact⟨rfl,fun cur e=>by cases e⟩
 ·obtain ⟨-,cur,hc⟩:=own_obj1 ho hk;obtain⟨-,cur2,hc2⟩:=own_obj1 h.plan he;rw [hc] at hc2
  cases hc2
structure PlSt (w wr:World) (pf pw:Nat) (pv:Value) (S:Fs) (n:Int):Prop where
 st:∃ R Y,SyAt wr pf pw R pv Y∧Y.fs=S∧Calm Y∧Y.count≤n∧∀ k,R.Y pf pw k→w.heap.size≤k
 below:Below w.heap.size w wr
theorem PlSt.keep {wr:World} {S:Fs} {n:Int} (h:PlSt w wr pf pw pv S n) (hb:Below wr.heap.size wr w'):PlSt w w' pf pw pv S n:=by
 obtain⟨⟨R,Y,h1,h2,h3,h4,h5⟩,h6⟩:=h;exact⟨⟨R,Y,h1.keep hb,h2,h3,h4,h5⟩,bnext h6 hb⟩
theorem PlSt.mono {wr:World} {S:Fs} {n n':Int} (h:PlSt w wr pf pw pv S n) (hn:n≤n'):PlSt w wr pf pw pv S n':=by
 obtain⟨⟨R,Y,h1,h2,h3,h4,h5⟩,h6⟩:=h;exact⟨⟨R,Y,h1,h2,h3,by omega,h5⟩,h6⟩
theorem PlSt.of {wr:World} {S:Fs} {n d:Int} (hb:Below w.heap.size w wr) (hc:Y.count≤n) (hF:∀ k,R.Y pf pw k→w.heap.size≤k) (h:Became wr w' pf pw R pv Y S d):PlSt w w' pf pw pv S (n+d):=by
 obtain⟨R',Z,h1,h2,h3,h4,h5⟩:=h;refine ⟨⟨R',Z,h1,h2,h3,by omega,fun k hk=>?_⟩,hb.trans (h5.below hF hb.size)⟩;exact h5.above hF hb.size k hk
end
theorem PlSt.oi {w wr w':World} {pf pw:Nat} {pv:Value} {S:Fs} {n:Int} (h:PlSt w wr pf pw pv S n) {v:Value} {l:List Int} (ho:OI wr w.heap.size v l) (hm:Mod (fun j=>v.ownBlock=some j) wr w'):PlSt w w' pf pw pv S n:=by
 obtain⟨⟨R,Y,h1,h2,h3,h4,h5⟩,h6⟩:=h;exact⟨⟨R,Y,h1.oi ho hm,h2,h3,h4,h5⟩,h6.trans (hm.below (fun k hk=>(own_obj1 ho hk).1) h6.size)⟩
theorem Blk.oi {w w':World} {B base:Nat} {vs:Array Value} {T:TypeId} {v:Value} {l:List Int} (hb:Blk w B vs T) (ho:OI w base v l) (hm:Mod (fun j=>v.ownBlock=some j) w w') (hT:T≠3):Blk w' B vs T:=
 hb.mod hm (fun he=>by
  obtain⟨-,cur,hc⟩:=own_obj1 ho he;unfold Blk at hb;rw [hb] at hc;injection hc with hc;injection hc with hc e;exact hT e)
theorem mountsF_snoc (S:Fs) (l:List Mt) (m:Mt):mountsF S (l ++ [m])=if m.path=topB then mountsF S l else mountF (mountsF S l) m:=by
 rw [mountsF_app];rfl
theorem itemsF_snoc (S:Fs) (l:List It) (x:It):itemsF S (l ++ [x])=((itemF (itemsF S l).1 x).1,(itemsF S l).2 ++ [(itemF (itemsF S l).1 x).2]):=by
 rw [itemsF_app];rfl
theorem timesF_snoc (S:Fs) (l:List (It×Int)) (x:It×Int):timesF S (l ++ [x])=if x.2≠0 then ((timesF S l).utime c00 0 x.2 x.1.mtime).1 else timesF S l:=by
 rw [timesF_app];rfl
theorem plant_any (w:World) {ma:Option Addr} {mn mc:Nat} {ia:Option Addr} {il ic:Nat} {ms:List Mt} {is:List It} (h:SdAt w ma mn mc ia il ic ms is) (hml:ms.length≤100000) (hil:is.length≤100000)
  (hmp:∀ m∈ms,m.path.size≤100000) (hip:∀ x∈is,x.path.size≤100000∧x.data.size≤100000) :
  Calls Tryz.prog 22 #[.agg #[.slice ma mn mc,.slice ia il ic]] w fun e w'=>∃ pf pw R pv Y,e=.returned (.pointer (some ⟨pf,0,none⟩))∧SyAt w' pf pw R pv Y∧Y=⟨plantF ms is,0,0,[],false⟩∧(∀ k,R.Y pf pw k→w.heap.size≤k)∧Below w.heap.size w w':=by
 have HS:=Lib.hid h;have HL:=Lib.hid (slimits_any (w.alloc (.cells #[.slice ma mn mc,.slice ia il ic] 31)) (h.keep ((Below.refl _ w).alloc (Nat.le_refl _) _)));have HN:=Lib.hid (fun w=>snew_any (limitsF ms).1 (limitsF ms).2 (limits_ok ms) w);have HMp:=Lib.hid hmp;have HIp:=Lib.hid hip;have hln:=h.m.1;have hli:=h.i.1;subst hln hli;have hB0:=Blk.new w #[.slice ma ms.length mc,.slice ia is.length ic] 31;have hb0:=balloc (Below.refl w.heap.size w) (.cells #[.slice ma ms.length mc,.slice ia is.length ic] 31);have HPl:=Lib.hid (show plantF ms is=timesF (itemsF (mountsF (fs0.addRoot 0 (limitsF ms).1 (limitsF ms).2) ms) is).1 (is.zip (itemsF (mountsF (fs0.addRoot 0 (limitsF ms).1 (limitsF ms).2) ms) is).2) from rfl);have HOk:=Lib.hid (FsOk.new (limitsF ms).1 (limitsF ms).2);unfold sy0 at HN;generalize fs0.addRoot 0 (limitsF ms).1 (limitsF ms).2=S0 at HN HPl HOk;generalize (limitsF ms).1=lb at HL HN;generalize (limitsF ms).2=ln at HL HN;clear h hmp hip;go_enter Tryz.func22,Tryz.ntmps22;go_wp2_with fail;refine HL.out.mono ?_;rintro e w1 ⟨rfl,hb1⟩;have hB1:=hB0.keep hb1;have hbw1:=bnext hb0 hb1;clear hB0 hb0 hb1;go_wp2_with fail;refine (HN.out _).mono ?_;rintro e w2 ⟨pf,pw,R0,rfl,hY0,hb2,hF0⟩;have hB2:=hB1.keep hb2;have hP0:PlSt w w2 pf pw (.slice none 0 0) S0 0:=⟨⟨R0,_,hY0,rfl,⟨rfl,rfl,rfl,by show (0:Int)≤0;omega⟩,by show (0:Int)≤0;omega,fun k hk=>Nat.le_trans hbw1.size (hF0 k hk)⟩,bnext hbw1 hb2⟩;have HP0:=Lib.hid hP0;have HB2:=Lib.hid hB2;obtain⟨bc,bf,bz⟩:=hB2.facts;clear hB1 hbw1 hY0 hb2 hF0 hB2 hP0;go_wp2_with fail
 go_loopw [26] (fun t26 wr=>∃ k:Nat,k≤ms.length∧t26=.int .i64 k∧PlSt w wr pf pw (.slice none 0 0) (mountsF S0 (ms.take k)) k∧Blk wr w.heap.size #[.slice ma ms.length mc,.slice ia is.length ic] 31) (fun t26 _=>ms.length - (intOf t26).toNat)
 case atStart=>exact ⟨0,Nat.zero_le _,rfl,HP0.out,HB2.out⟩
 case round=>
  obtain⟨k,hk,rfl,hP,hB⟩:=hrel;have HP:=Lib.hid hP;have HB:=Lib.hid hB;clear bc bf bz;obtain⟨bc,bf,bz⟩:=hB.facts;have hbw:=hP.below;clear hP hB;by_cases hlt:k<ms.length
  ·obtain ⟨b,off,rfl,hbl⟩:=slice_some HS.out.m (by omega);obtain⟨c0,c1,c2⟩:=mt_cells (HS.out.m.below hbw (Nat.le_refl _)) k hlt;have HQ:=Lib.hid (show mountsF S0 (ms.take (k+1))=if ms[k].path=topB then mountsF S0 (ms.take k) else mountF (mountsF S0 (ms.take k)) ms[k] by rw [List.take_succ_eq_append_getElem hlt,mountsF_snoc]);have HMk:=Lib.hid (HMp.out ms[k] (List.getElem_mem hlt));have HOkk:=Lib.hid (show FsOk (mountsF S0 (ms.take k)) (1+2*k) by
    have:=mountsF_ok HOk.out (ms.take k)
    rwa [List.length_take,Nat.min_eq_left hk] at this)
   generalize ms[k]=m at c0 c1 c2 HQ HMk;generalize hS2:mountsF S0 (ms.take (k+1))=S2 at HQ;have HS2:=Lib.hid hS2;clear hS2;generalize hSk:mountsF S0 (ms.take k)=Sk at HQ HP HOkk;have HSk:=Lib.hid hSk;have hX:=Blk.new wr #[.string m.path,.int .i64 m.b,.int .i64 m.n] 126;have hbX:=(Below.refl _ wr).alloc (Nat.le_refl _) (.cells #[.string m.path,.int .i64 m.b,.int .i64 m.n] 126);clear hSk hbw;go_upto_region 7 with fail;generalize wr.alloc (.cells #[.string m.path,.int .i64 m.b,.int .i64 m.n] 126)=X at hX hbX ⊢;have HBX:=Lib.hid (HB.out.keep hbX);have HPX:=Lib.hid (HP.out.keep hbX);obtain⟨xc,xf,xz⟩:=hX.facts;clear hX hbX c0 c1 c2;by_cases h1:m.path=topB
   ·have h1b:m.path.toList=[47]:=by rw [h1,ba_list];rfl
    have HE:=Lib.hid (HQ.out.trans (if_pos h1));clear h1;go_wp2_with fail;go_roundw
    case rel=>exact ⟨k+1,by omega,by go_num,by rw [show mountsF S0 (ms.take (k+1))=Sk from by rw [HS2.out];exact HE.out];exact HPX.out.mono (by omega),HBX.out⟩
    case measure=>simp [intOf];omega
   ·have h1b:(m.path.toList == [47])=false:=by
     rw [ba_list];simp only [beq_eq_false_iff_ne,ne_eq];exact fun e=>h1 (ba_eq e)
    have HE:=Lib.hid (HQ.out.trans (if_neg h1));obtain⟨⟨R,Y,hY,hfs,hcl,hcn,hF⟩,hbw⟩:=HPX.out;have HM:=Lib.hid (smount_any hY (N:=1+2*k) (by rw [hfs];exact HOkk.out) (by omega) hcl (by omega) m HMk.out);rw [hfs] at HM;have HW:=Lib.hid (And.intro hY (And.intro hcn (And.intro hF hbw)));clear h1 hY hfs hcl hcn hF hbw;go_wp2_with fail;refine HM.out.mono ?_;rintro e w5 ⟨rfl,hBec⟩;obtain⟨hY,hcn,hF,hbw⟩:=HW.out;have hP5:=PlSt.of hbw hcn hF hBec;obtain⟨R',Z,-,-,-,-,z5⟩:=hBec;have HB5:=Lib.hid (HBX.out.sy hY z5 rfl (by decide));have HP5:=Lib.hid hP5;clear hP5 z5 hY hcn hF hbw;go_wp2_with fail;go_roundw
    case rel=>exact ⟨k+1,by omega,by go_num,by rw [show mountsF S0 (ms.take (k+1))=mountF Sk m from by rw [HS2.out];exact HE.out];exact HP5.out.mono (by omega),HB5.out⟩
    case measure=>simp [intOf];omega
  ·obtain rfl:k=ms.length:=by omega
   rw [List.take_length] at HP;have HOk1:=Lib.hid (mountsF_ok HOk.out ms);generalize mountsF S0 ms=S1 at HP HOk1 HPl;have hO0:OI (wr.alloc (.cells #[] 3)) w.heap.size (.slice (some ⟨wr.heap.size,0,none⟩) 0 0) []:=⟨rfl,.inr ⟨wr.heap.size,0,#[],rfl,HP.out.below.size,Blk.new _ _ _,Nat.le_refl _,by unfold maxLen;omega,rfl,rfl⟩⟩;have hP1:=HP.out.keep ((Below.refl _ wr).alloc (Nat.le_refl _) (.cells #[] 3));have hB1:=HB.out.old (.cells #[] 3);have HO0:=Lib.hid hO0;have HP1:=Lib.hid hP1;have HB1:=Lib.hid hB1;clear hO0 hP1 hB1 hbw;go_wp2_with fail;generalize wr.alloc (.cells #[] 3)=W1 at HO0 HP1 HB1 ⊢;generalize wr.heap.size=hmade at HO0 ⊢
   go_loopw [41,7] (fun t41 t7 wr=>∃ (k:Nat) (a:Option Addr) (c:Nat),k≤is.length∧t41=.int .i64 k∧t7=.slice a k c∧OI wr w.heap.size (.slice a k c) (itemsF S1 (is.take k)).2∧PlSt w wr pf pw (.slice none 0 0) (itemsF S1 (is.take k)).1 (ms.length+3*k)∧Blk wr w.heap.size #[.slice ma ms.length mc,.slice ia is.length ic] 31) (fun t41 _ _=>is.length - (intOf t41).toNat)
   case atStart=>exact ⟨0,_,_,Nat.zero_le _,rfl,rfl,HO0.out,HP1.out.mono (by omega),HB1.out⟩
   case round=>
    obtain⟨k,a,c,hk,rfl,rfl,hO,hP,hB⟩:=hrel;have HO:=Lib.hid hO;have HP:=Lib.hid hP;have HB:=Lib.hid hB;clear bc bf bz;obtain⟨bc,bf,bz⟩:=hB.facts;have hbw:=hP.below;clear hP hB hO;by_cases hlt:k<is.length
    ·obtain ⟨b,off,rfl,hbl⟩:=slice_some HS.out.i (by omega);obtain⟨c0,c1,c2,c3,c4,c5,c6⟩:=it_cells (HS.out.i.below hbw (Nat.le_refl _)) k hlt;have HQ:=Lib.hid (show itemsF S1 (is.take (k+1))=((itemF (itemsF S1 (is.take k)).1 is[k]).1,(itemsF S1 (is.take k)).2 ++ [(itemF (itemsF S1 (is.take k)).1 is[k]).2]) by rw [List.take_succ_eq_append_getElem hlt,itemsF_snoc]);have HMk:=Lib.hid (HIp.out is[k] (List.getElem_mem hlt));have HOkk:=Lib.hid (show FsOk (itemsF S1 (is.take k)).1 (1+2*ms.length+k) by
      have:=itemsF_ok HOk1.out (is.take k)
      rwa [List.length_take,Nat.min_eq_left hk] at this)
     have HLk:=Lib.hid (show (itemsF S1 (is.take k)).2.length=k by rw [itemsF_len,List.length_take,Nat.min_eq_left hk]);generalize is[k]=it at c0 c1 c2 c3 c4 c5 c6 HQ HMk;generalize itemsF S1 (is.take k)=Sk at HQ HP HOkk HO HLk;obtain⟨Sk,Lk⟩:=Sk;have hX:=Blk.new wr #[.string it.path,.int .i64 it.kind,.int .i64 it.mode,.int .i64 it.uid,.int .i64 it.gid,.int .i64 it.mtime,.string it.data] 73;have hbX:=(Below.refl _ wr).alloc (Nat.le_refl _) (.cells #[.string it.path,.int .i64 it.kind,.int .i64 it.mode,.int .i64 it.uid,.int .i64 it.gid,.int .i64 it.mtime,.string it.data] 73);clear hbw;go_upto_region 14 with fail;generalize wr.alloc (.cells #[.string it.path,.int .i64 it.kind,.int .i64 it.mode,.int .i64 it.uid,.int .i64 it.gid,.int .i64 it.mtime,.string it.data] 73)=X at hX hbX ⊢;have HBX:=Lib.hid (HB.out.keep hbX);have HPX:=Lib.hid (HP.out.keep hbX);have HOX:=Lib.hid (own_below HO.out hbX (Nat.le_refl _));have HIX:=Lib.hid hX;obtain⟨xc,xf,xz⟩:=hX.facts;obtain⟨⟨R,Y,hY,hfs,hcl,hcn,hF⟩,hbw⟩:=HPX.out;have HM:=Lib.hid (snode_any hY (N:=1+2*ms.length+k) (by rw [hfs];exact HOkk.out) (by omega) hcl (by omega) it HMk.out.1 HMk.out.2);rw [hfs] at HM;have HW:=Lib.hid (And.intro hY (And.intro hcn (And.intro hF hbw)));have HOk5:=Lib.hid (nodeF_ok HOkk.out it);have HIt:=Lib.hid (show itemF Sk it=if (nodeF Sk it).2≠0 then ((((nodeF Sk it).1.chown c00 0 (nodeF Sk it).2 it.uid it.gid).1.chmod c00 0 (nodeF Sk it).2 it.mode).1,(nodeF Sk it).2) else nodeF Sk it from rfl);clear hX hbX c0 c1 c2 c3 c4 c5 c6 hY hfs hcl hcn hF hbw;go_wp2_with fail;refine HM.out.mono ?_;clear HM;rintro e w5 ⟨rfl,hBec⟩;generalize nodeF Sk it=nd at hBec HOk5 HIt ⊢;obtain⟨S5,no⟩:=nd;dsimp only at hBec HOk5 HIt ⊢;obtain⟨hY,hcn,hF,hbw⟩:=HW.out;have hP5:=PlSt.of hbw hcn hF hBec;obtain⟨R',Z,-,-,-,-,z5⟩:=hBec;have hB5:=HBX.out.sy hY z5 rfl (by decide);have hI5:=HIX.out.sy hY z5 rfl (by decide);have hO5:OI w5 w.heap.size (.slice a Lk.length c) Lk:=by rw [HLk.out];exact OI.sy (l:=Lk) HOX.out hY z5
     obtain⟨g,cap,W,hrun,hOW,hmW⟩:=hO5.app no (by rw [HLk.out];omega) hP5.below.size;have hPW:=hP5.oi hO5 hmW;have hBW:=hB5.oi hO5 hmW (by decide);have hIW:=hI5.oi hO5 hmW (by decide);rw [HLk.out] at hrun hOW;have HRun:=Lib.hid hrun;have HPW:=Lib.hid hPW;have HBW:=Lib.hid hBW;have HIW:=Lib.hid hIW;have HOW:=Lib.hid hOW;clear xc xf xz hP5 z5 hY hcn hF hbw hB5 hI5 hO5 hrun hOW hmW hPW hBW;obtain⟨xc,xf,xz⟩:=hIW.facts;clear hIW;by_cases hno:no=0
     ·have hnb:(no != 0)=false:=by simpa using hno
      have HE:=Lib.hid (HIt.out.trans (if_neg (by simp [hno])));clear hno;go_wp2_with (at_builtin;refine wpList_app_run rfl rfl rfl rfl HRun.out ?_);go_roundw
      case rel=>
       refine ⟨k+1,_,cap,by omega,by go_num,rfl,?_,?_,HBW.out⟩
       ·rw [HQ.out,HE.out];exact HOW.out
       ·rw [HQ.out,HE.out];exact HPW.out.mono (by omega)
      case measure=>simp [intOf];omega
     ·have hnb:(no != 0)=true:=by simpa using hno
      have HE:=Lib.hid (HIt.out.trans (if_pos hno));clear hno;obtain⟨⟨R,Y,hY,hfs,hcl,hcn,hF⟩,hbw⟩:=HPW.out;have HM:=Lib.hid (schown_any hY (N:=1+2*ms.length+k+1) (by rw [hfs];exact HOk5.out) (by omega) ⟨hcl.c0,by omega⟩ (by rw [hcl.plan];exact Nat.zero_le _) c00 no it.uid it.gid);rw [hcl.opE,hfs] at HM;have HW:=Lib.hid (And.intro hY (And.intro hcn (And.intro hF (And.intro hbw hcl))));clear hY hfs hcl hcn hF hbw;go_wp2_with (at_builtin;refine wpList_app_run rfl rfl rfl rfl HRun.out ?_);refine HM.out.mono ?_;clear HM;rintro e w6 ⟨rfl,R6,hY6,hS6⟩;obtain⟨hY,hcn,hF,hbw,hcl⟩:=HW.out;have hB6:=HBW.out.sy hY hS6 rfl (by decide);have hI6:=HIW.out.sy hY hS6 rfl (by decide);have hO6:=OI.sy HOW.out hY hS6;have hP6:=PlSt.of hbw hcn hF (⟨R6,_,hY6,rfl,hcl.next _,(by show Y.count+1≤Y.count+1;omega),hS6⟩:Became W w6 pf pw R (.slice none 0 0) Y _ 1);have HP6:=Lib.hid hP6;have HB6:=Lib.hid hB6;have HI6:=Lib.hid hI6;have HO6:=Lib.hid hO6;clear xc xf xz hP6 hB6 hY6 hS6 hY hcn hF hbw hcl hO6;obtain⟨xc,xf,xz⟩:=hI6.facts;clear hI6 HW;obtain⟨⟨R,Y,hY,hfs,hcl,hcn,hF⟩,hbw⟩:=HP6.out;have HM:=Lib.hid (schmod_any hY (N:=1+2*ms.length+k+1) (by rw [hfs];exact chown_ok HOk5.out _ _ _ _ _) (by omega) ⟨hcl.c0,by omega⟩ (by rw [hcl.plan];exact Nat.zero_le _) c00 no it.mode);rw [hcl.opE,hfs] at HM;have HW:=Lib.hid (And.intro hY (And.intro hcn (And.intro hF (And.intro hbw hcl))));clear hY hfs hcl hcn hF hbw;go_wp2_with fail;refine HM.out.mono ?_;clear HM;rintro e w7 ⟨rfl,R7,hY7,hS7⟩;obtain⟨hY,hcn,hF,hbw,hcl⟩:=HW.out;have HB7:=Lib.hid (HB6.out.sy hY hS7 rfl (by decide));have HO7:=Lib.hid (OI.sy HO6.out hY hS7);have HP7:=Lib.hid (PlSt.of hbw hcn hF (⟨R7,_,hY7,rfl,hcl.next _,(by show Y.count+1≤Y.count+1;omega),hS7⟩:Became w6 w7 pf pw R (.slice none 0 0) Y _ 1));clear hY7 hS7 hY hcn hF hbw hcl;go_wp2_with fail;go_roundw
      case rel=>
       refine ⟨k+1,_,cap,by omega,by go_num,rfl,?_,?_,HB7.out⟩
       ·rw [HQ.out,HE.out];exact HO7.out
       ·rw [HQ.out,HE.out];exact HP7.out.mono (by omega)
      case measure=>simp [intOf];omega
    ·obtain rfl:k=is.length:=by omega
     rw [List.take_length] at HP HO;have HOk2:=Lib.hid (itemsF_ok HOk1.out is);have HLm:=Lib.hid (itemsF_len S1 is);generalize itemsF S1 is=q at HP HO HOk2 HPl HLm;obtain⟨S2,made⟩:=q;dsimp only at HPl;have hml2:made.length=is.length:=HLm.out;clear hbw;go_wp2_with fail
     go_loopw [72] (fun t72 wr=>∃ k:Nat,k≤is.length∧t72=.int .i64 k∧OI wr w.heap.size (.slice a is.length c) made∧PlSt w wr pf pw (.slice none 0 0) (timesF S2 ((is.zip made).take k)) (ms.length+3*is.length+k)) (fun t72 _=>is.length - (intOf t72).toNat)
     case atStart=>exact ⟨0,Nat.zero_le _,rfl,HO.out,HP.out.mono (by omega)⟩
     case round=>
      obtain⟨k,hk,rfl,hO,hP⟩:=hrel;have HO3:=Lib.hid hO;have HP3:=Lib.hid hP;have hbw:=hP.below;clear hP hO bc bf bz;by_cases hlt:k<is.length
      ·obtain ⟨b,off,rfl,hbl⟩:=slice_some HS.out.i (by omega);obtain⟨c0,c1,c2,c3,c4,c5,c6⟩:=it_cells (HS.out.i.below hbw (Nat.le_refl _)) k hlt;have hkm:k<made.length:=by omega
       obtain⟨g,rfl⟩:∃ g,a=some ⟨g,0,none⟩:=by
        obtain⟨a1,c1,e1,-,-,hf⟩:=own_form HO3.out;injection e1 with e1 e2 e3;rcases hf with ⟨-,h0,-⟩|⟨g,hg,-,-⟩
        ·omega
        ·exact ⟨g,e1.trans hg⟩
       have hO4:OI wr w.heap.size (.slice (some ⟨g,0,none⟩) made.length c) made:=by rw [hml2];exact HO3.out
       have hgl:=(own_frozen hO4).2.2;have hmc:wr.cell? ⟨g,k,none⟩=some (.int .i64 made[k]):=hO4.cell k hkm;have HQ:=Lib.hid (show timesF S2 ((is.zip made).take (k+1))=if made[k]≠0 then ((timesF S2 ((is.zip made).take k)).utime c00 0 made[k] is[k].mtime).1 else timesF S2 ((is.zip made).take k) by
        rw [List.take_succ_eq_append_getElem (by rw [List.length_zip];omega),timesF_snoc,List.getElem_zip])
       have HOkk:=Lib.hid (timesF_ok HOk2.out ((is.zip made).take k));generalize is[k]=it at c0 c1 c2 c3 c4 c5 c6 HQ;generalize made[k]=no at hmc HQ;generalize timesF S2 ((is.zip made).take k)=Sk at HQ HP3 HOkk;have hX:=Blk.new wr #[.string it.path,.int .i64 it.kind,.int .i64 it.mode,.int .i64 it.uid,.int .i64 it.gid,.int .i64 it.mtime,.string it.data] 73;have hbX:=(Below.refl _ wr).alloc (Nat.le_refl _) (.cells #[.string it.path,.int .i64 it.kind,.int .i64 it.mode,.int .i64 it.uid,.int .i64 it.gid,.int .i64 it.mtime,.string it.data] 73);clear hbw hO4;have HMl:=Lib.hid hml2;clear hml2;go_upto_region 23 with fail;have hmc2:=(hbX.cell (p:=⟨g,k,none⟩) hgl).trans hmc;have HOX:=Lib.hid (own_below HO3.out hbX (Nat.le_refl _));generalize wr.alloc (.cells #[.string it.path,.int .i64 it.kind,.int .i64 it.mode,.int .i64 it.uid,.int .i64 it.gid,.int .i64 it.mtime,.string it.data] 73)=X at hX hbX hmc2 HOX ⊢;have HPX:=Lib.hid (HP3.out.keep hbX);obtain⟨xc,xf,xz⟩:=hX.facts;clear hX hbX c0 c1 c2 c3 c4 c5 c6 hmc;by_cases hno:no=0
       ·have hnb:(no != 0)=false:=by simpa using hno
        have HE:=Lib.hid (HQ.out.trans (if_neg (by simp [hno])));clear hno;go_wp2_with fail;go_roundw
        case rel=>exact ⟨k+1,by omega,by go_num,HOX.out,by rw [HE.out];exact HPX.out.mono (by omega)⟩
        case measure=>simp [intOf];omega
       ·have hnb:(no != 0)=true:=by simpa using hno
        have HE:=Lib.hid (HQ.out.trans (if_pos hno));have mixed:Tryz.prog.follows .mixedOrders=true:=by kernel_rfl
        obtain⟨⟨R,Y,hY,hfs,hcl,hcn,hF⟩,hbw⟩:=HPX.out;have HM:=Lib.hid (sutime_any (hY.keep (Below.refl _ X).drew) (N:=1+2*ms.length+is.length) (by rw [hfs];exact HOkk.out) (by omega) ⟨hcl.c0,by omega⟩ (by rw [hcl.plan];exact Nat.zero_le _) c00 no it.mtime);rw [hcl.opE,hfs] at HM;have HW:=Lib.hid (And.intro hY (And.intro hcn (And.intro hF (And.intro hbw hcl))));clear hno hY hfs hcl hcn hF hbw;go_wp2_with fail;refine wp_region_lex 8 mixed (by kernel_rfl) (show PanicOk _ from by repeat (first | exact pk_body | refine pk_then ?_ | refine pk_block ?_ | refine pk_scope ?_)) ?_;simp only [List.take_succ_cons,List.take_zero,List.drop_succ_cons,List.drop_zero]
        repeat still_step
        refine wpStill_nil ?_;go_wp2_with fail;refine HM.out.mono ?_;clear HM;rintro e w7 ⟨rfl,R7,hY7,hS7⟩;obtain⟨hY,hcn,hF,hbw,hcl⟩:=HW.out;have hXd:Below X.heap.size X X.drew:=(Below.refl _ X).drew;have HO7:=Lib.hid (OI.sy (own_below HOX.out hXd (Nat.le_refl _)) (hY.keep hXd) hS7);have HP7:=Lib.hid (PlSt.of (hbw.drew) hcn hF (⟨R7,_,hY7,rfl,hcl.next _,(by show Y.count+1≤Y.count+1;omega),hS7⟩:Became X.drew w7 pf pw R (.slice none 0 0) Y _ 1));clear hY7 hS7 hY hcn hF hbw hcl hXd;go_wp2_with fail;go_roundw
        case rel=>exact ⟨k+1,by omega,by go_num,HO7.out,by rw [HE.out];exact HP7.out.mono (by omega)⟩
        case measure=>simp [intOf];omega
      ·obtain rfl:k=is.length:=by omega
       rw [List.take_of_length_le (by rw [List.length_zip];omega),←HPl.out] at HP3;obtain⟨⟨R,Y,hY,hfs,hcl,hcn,hF⟩,hbw⟩:=HP3.out;have HM:=Lib.hid (swake_any hY);have HW:=Lib.hid (And.intro hfs (And.intro hcl (And.intro hF hbw)));have HY:=Lib.hid hY;clear hY hfs hcl hcn hF hbw;go_wp2_with fail;refine HM.out.mono ?_;rintro e w7 ⟨rfl,pv7,hY7,hm7⟩;obtain⟨hfs,hcl,hF,hbw⟩:=HW.out;have HX:=Lib.hid (show ∃ R pv Y,SyAt w7 pf pw R pv Y∧Y=⟨plantF ms is,0,0,[],false⟩∧(∀ k,R.Y pf pw k→w.heap.size≤k)∧Below w.heap.size w w7 from
        ⟨R,pv7,_,hY7,(by unfold Sy.wake;rw [hfs,hcl.now]),hF,hbw.trans (hm7.below (fun k hk=>by rw [hk];exact hF pf (.inl rfl)) hbw.size)⟩)
       clear hfs hcl hF hbw hY7 hm7;go_wp2_with fail;go_ret;obtain⟨R,pv,Y,h1,h2,h3,h4⟩:=HX.out;exact⟨pf,pw,R,pv,Y,rfl,h1,h2,h3,h4⟩
end
section
open Go.RowKit Go.Shelf
attribute [local go_sem] Oper.semAt_some
def ONo (w:World) (base:Nat) (v:Value) (l:List Int):Prop:=w.ownsRow base 3 1 v l.length (l.map (Value.int .i64))
theorem blk_tN {N:Nat} {A B:World} {b:Nat} {vs:Array Value} {T:TypeId} (h:Blk A b vs T) (ht:Turn NoT N notCells A B):Blk B b vs T:=ht.block b _ h (fun h=>h) (fun _=>rfl)
theorem below_tN {N M:Nat} {w0 A B:World} (h:Below M w0 A) (ht:Turn NoT N notCells A B) (hN:M≤N) (hM:M≤w0.heap.size):Below M w0 B:=by
 refine ⟨ht.os.trans h.os,ht.tape.trans h.tape,ht.output.trans h.output,Nat.le_trans h.size ht.size,fun k hk=>?_⟩;obtain⟨o,ho⟩:∃ o,w0.heap[k]? = some o:=⟨w0.heap[k]'(by omega),Array.getElem?_eq_getElem _⟩;have h1:=(h.block k hk).trans ho;rw [ht.block k o h1 (fun h=>h) (fun h=>by omega),ho]
def Fs.topNo (l:List (Int×ByteArray)):List Int:=l.map (·.1)
def Fs.topTx (l:List (Int×ByteArray)):List (List UInt8):=l.map (fun x=>x.2.data.toList)
structure TI (w:World) (B:Nat) (pre:List (Int×ByteArray)) (W:World):Prop where
 a:∃ va,Blk W w.heap.size #[va] 118∧ONo W B va (Fs.topNo pre)
 b:∃ vb,Blk W (w.heap.size+1) #[vb] 201∧OS W B vb (Fs.topTx pre)
 below:Below w.heap.size w W
theorem topsL_len (S:Fs):S.topsL.length≤S.ds.length:=by
 unfold Fs.topsL Fs.topsK;exact Nat.le_trans (List.length_filterMap_le _ _) (by simp)
end
section
open Go.RowKit
theorem all_stopsU {pf pw:Nat} {R:Rp} {pv:Value} {Y:Sy} (n:Nat) (hn:1≤n) (Bs:Nat) (w:World) (hs:Blk w Bs #[.pointer (some ⟨pf,0,none⟩)] 40) (h:SyAt w pf pw R pv Y) {N:Nat} (hk:FsOk Y.fs N) (hp:Pl Y.fs) (hl:Y.fs.ns.length≤100000) :
  SeqU (TK w) Fence.wide n Tryz.prog 158 #[.pointer (some ⟨Bs,0,none⟩)] (fun x:Int×ByteArray=>#[.int .i64 x.1,.string x.2])
   (fun xs=>xs=Y.fs.topsL) (fun pre=>True) (fun pre x=>(pre ++ [x]) <+: Y.fs.topsL) w:=fun L J Jx W hW hWs hJ hJx hY h0=>by
 have Hs:=Lib.hid (fun w1 (hb:KT (TK w) w w1)=>(tk_blk hs (by rfl) hb).facts);have HDv:=Lib.hid (fun w1 (hb:KT (TK w) w w1)=>wdevs_any (tk_wd h.wd hb) hk.d1);have HRo:=Lib.hid (fun w1 (hb:KT (TK w) w w1) d=>wroot_any (tk_wd h.wd hb) hk.d1 d);have HWh:=Lib.hid (fun w1 (hb:KT (TK w) w w1) d=>wwhere_any (tk_wd h.wd hb) hk hp hl d);have HPC:=Lib.hid (fun w1 (hb1:KT (TK w) w w1)=>show w1.cell? ⟨pf,0,none⟩=some (.pointer (some ⟨pw,0,none⟩)) from (tk_blk h.blk (by rfl) hb1).facts.1 0);obtain⟨S,hS⟩:∃ S,Y.fs=S:=⟨_,rfl⟩;have hd8:=hk.d8;rw [hS] at HDv HRo HWh hY hd8 ⊢;have HY:=Lib.hid hY;have HJ:=Lib.hid hJ;have HW:=Lib.hid hW;obtain⟨sc,-,sz⟩:=Hs.out _ hW;have pc0:=HPC.out _ hW;clear hs hW hWs hY hJ hJx h hk hp hS;refine callsIn_of_wp Tryz.func158 rfl trivial ?_ rfl;simp only [Tryz.ntmps158,List.size_toArray,List.length_cons,List.length_nil,Nat.reduceAdd,Nat.reduceSub,Array.replicate_succ,Array.replicate_zero,List.push_toArray,List.append_toArray,List.nil_append,List.cons_append];gi_wp2;refine ⟨trivial,callsIn_wide.2 ((HDv.out _ HW.out).mono ?_)⟩;rintro e w1 ⟨rfl,rfl⟩;gi_wp2
 gi_loopw [21] (fun t21 wr=>∃ k:Nat,k≤S.ds.length∧t21=.int .i64 k∧J (S.topsK k) wr∧KT (TK w) w wr∧W.heap.size≤wr.heap.size) (fun t21 _=>S.ds.length - (intOf t21).toNat)
 case atStart=>exact ⟨0,Nat.zero_le _,rfl,h0,HW.out,Nat.le_refl _⟩
 case round=>
  obtain⟨k,hk,rfl,hJp,hb,hsz⟩:=hrel;clear sc sz pc0 h0;have HJp:=Lib.hid hJp;have HB:=Lib.hid hb;by_cases hkl:k<S.ds.length
  ·obtain ⟨sc,-,sz⟩:=Hs.out _ hb;have pc0:=HPC.out _ hb;have HT:=Lib.hid (topsK_succ S k);have HPr:=Lib.hid (topsK_prefix S (show k+1≤S.ds.length by omega));have HAt:=Lib.hid (show S.topAt k=(S.place_ (S.root ((k:Int)+1))).map fun s=>(S.root ((k:Int)+1),s) from rfl);clear hJp hb;gi_wp2;refine ⟨trivial,callsIn_wide.2 ((HRo.out _ HB.out _).mono ?_)⟩;rintro e w2 ⟨rfl,rfl⟩;gi_wp2;refine ⟨trivial,callsIn_wide.2 ((HWh.out _ HB.out _).mono ?_)⟩;rintro e w3 ⟨rfl,hb3⟩;have HJ3:=Lib.hid (HJ.out _ _ _ HJp.out (Turn.of_below hb3));have HB3:=Lib.hid (HB.out.trans (KT.of_below hb3 (fun k hk=>Nat.lt_of_lt_of_le (tk_lt hk) HB.out.1)));have hsz3:W.heap.size≤w3.heap.size:=Nat.le_trans hsz hb3.size;unfold whereV;clear hb3 sc sz pc0
   cases hpl:S.place_ (S.root ((k:Int)+1)) with
   | none=>
    rw [hpl] at HAt;have HK:=Lib.hid (show S.topsK (k+1)=S.topsK k by rw [HT.out,HAt.out];simp);clear hpl;gi_wp2;refine ⟨fun f hf=>(by cases hf),?_⟩;gi_wp2;go_roundw
    case rel=>exact ⟨k+1,by omega,by go_num,by rw [HK.out];exact HJ3.out,HB3.out,hsz3⟩
    case measure=>simp [intOf];omega
   | some s=>
    rw [hpl] at HAt;have HK:=Lib.hid (show S.topsK (k+1)=S.topsK k ++ [(S.root ((k:Int)+1),s)] by rw [HT.out,HAt.out];rfl);obtain⟨fn,tmps,assign,body,hy,hR⟩:=HY.out _ (S.root ((k:Int)+1),s) _ HJ3.out (by rw [←HK.out];exact HPr.out);have HR:=Lib.hid hR;clear hpl hR;gi_wp2;refine HR.out.mono ?_;rintro e W3 (⟨rfl,hJ3,hk3⟩|⟨rfl,hJx3⟩)
    ·have HJ4:=Lib.hid hJ3;have HB4:=Lib.hid (HB3.out.trans hk3);have hsz4:W.heap.size≤W3.heap.size:=Nat.le_trans hsz3 hk3.1;clear hJ3 hk3 hy;gi_wp2;go_roundw
     case rel=>exact ⟨k+1,by omega,by go_num,by rw [HK.out];exact HJ4.out,HB4.out,hsz4⟩
     case measure=>simp [intOf];omega
    ·have HJx:=Lib.hid hJx3;clear hJx3 hy;gi_wp2;exact bodyPost_ret (results_none rfl _ _ _) rfl ⟨⟨_,rfl⟩,.inr ⟨_,trivial,HJx.out⟩⟩
  ·obtain rfl:k=S.ds.length:=by omega
   clear hJp hb;gi_wp2
   go_end0
   exact⟨⟨_,rfl⟩,.inl ⟨_,rfl,HJp.out⟩⟩
structure CAI (w:World) (pf:Nat) (u:Us) (l:List Cn) (W:World):Prop where
 f:Blk W w.heap.size #[.pointer (some ⟨pf,0,none⟩)] 40
 us:Blk W (w.heap.size+1) #[.int .i64 u.u,.int .i64 u.g,.string u.data] 33
 o:∃ v,Blk W (w.heap.size+2) #[v] 131∧OCn W (w.heap.size+3) v l
 below:Below w.heap.size w W
section
variable {w W W':World} {pf:Nat} {u:Us} {l:List Cn}
theorem CAI.keep (h:CAI w pf u l W) (hb:Below W.heap.size W W'):CAI w pf u l W':=by
 obtain⟨v,h1,h2⟩:=h.o;exact⟨h.f.keep hb,h.us.keep hb,⟨v,h1.keep hb,h2.keep hb⟩,bnext h.below hb⟩
theorem CAI.turn {N:Nat} (h:CAI w pf u l W) (ht:Turn NoT N notCells W W') (hN:w.heap.size≤N):CAI w pf u l W':=by
 obtain⟨v,h1,h2⟩:=h.o;refine ⟨blk_tN h.f ht,blk_tN h.us ht,⟨v,blk_tN h1 ht,own_turn h2 (fun k hk=>?_)⟩,below_tN h.below ht hN (Nat.le_refl _)⟩;obtain⟨-,cur,hc⟩:=own_obj1 h2 hk;exact (ht.block k _ hc (fun h=>h) (fun _=>rfl)).trans hc.symm
theorem CAI.push (h:CAI w pf u l W) (x:Cn) (hl:l.length≤1000) (hW:w.heap.size+3≤W.heap.size) {w4:World} (hk:KT (TK w4) w4 W) :
  ∃ v g c W1,Blk W (w.heap.size+2) #[v] 131∧
   (Builtin.append_ #[131,131] 131 #[v,.slice (some ⟨W.heap.size,0,none⟩) 1 1]).run Tryz.prog (W.alloc (.cells #[.string x.path,.int .i64 x.dir,.int .i64 x.info,.int .i64 x.files,.int .i64 x.out,.int .i64 x.way,.string x.top] 45))=.ok (.slice (some ⟨g,0,none⟩) (l.length+1) c) W1∧
   Blk W1 (w.heap.size+2) #[v] 131∧
   CAI w pf u (l ++ [x]) (W1.setCell ⟨w.heap.size+2,0,none⟩ (.slice (some ⟨g,0,none⟩) (l.length+1) c))∧
   KeepsOthers W (W1.setCell ⟨w.heap.size+2,0,none⟩ (.slice (some ⟨g,0,none⟩) (l.length+1) c))∧KT (TK w4) w4 (W1.setCell ⟨w.heap.size+2,0,none⟩ (.slice (some ⟨g,0,none⟩) (l.length+1) c))∧
   (∀ (B n:Nat) (vp:Value) (ps:List Value),W.ownsRow B 150 3 vp n ps→w.heap.size+3≤B→(W1.setCell ⟨w.heap.size+2,0,none⟩ (.slice (some ⟨g,0,none⟩) (l.length+1) c)).ownsRow B 150 3 vp n ps):=by
 obtain⟨v,h1,h2⟩:=h.o;obtain⟨g,c,W1,k1,k2,k3⟩:=h2.app x (by omega) hW;have hf:=own_blk h2 (by decide) h.f k3;have hu:=own_blk h2 (by decide) h.us k3;have ho:=own_blk h2 (by decide) h1 k3;have hb:Below w.heap.size w W1:=h.below.trans (k3.below (fun k hk=>by have:=(own_obj1 h2 hk).1;omega) (by omega));have hm:Mod (fun k=>k=w.heap.size+2) W1 (W1.setCell ⟨w.heap.size+2,0,none⟩ (.slice (some ⟨g,0,none⟩) (l.length+1) c)):=(Mod.refl (fun k=>k=w.heap.size+2) W1).setCell (a:=⟨w.heap.size+2,0,none⟩) (.inl rfl) _;have hs1:=k3.size;refine ⟨v,g,c,W1,h1,k1,ho,⟨hf.mod hm (by omega),hu.mod hm (by omega),⟨_,ho.set 0 _,own_mod k2 hm (fun k hk he=>?_)⟩,hb.trans (hm.below (fun k hk=>by omega) (by omega))⟩,?_,?_,fun B n vp ps hP hB=>own_mod (own_mod hP k3 (fun k hk=>own_apart h2 hP (by decide) hk)) hm (fun k hk he=>by have:=(own_obj1 (own_mod hP k3 (fun k hk=>own_apart h2 hP (by decide) hk)) he).1;omega)⟩
 ·have:=(own_obj1 k2 he).1;omega
 ·exact (keeps_mod1 k3 (fun k hk=>by obtain ⟨-,cur,hc⟩:=own_obj1 h2 hk;exact ⟨_,_,_,hc⟩)).trans (KeepsOthers.setCell _ _ _)
 ·refine (hk.trans (KT.of_mod k3 (fun k h=>Nat.lt_of_lt_of_le (tk_lt h) hk.1) (fun k h hv=>?_))).trans (KT.of_mod hm (fun k h=>Nat.lt_of_lt_of_le (tk_lt h) (Nat.le_trans hk.1 hs1)) (fun k h he=>?_))
  ·obtain ⟨-,cur,hc⟩:=own_obj1 h2 hv;exact tk_not hk hc (by rfl) h
  ·subst he;exact tk_not hk h1 (by rfl) h
end
end
section
open Go.RowKit
attribute [local go_sem] Oper.semAt_some
theorem kf_below {B:Nat} {W W':World} (h:Below W.heap.size W W'):KeepsFrom B W W':=⟨h.size,fun k o _ hk _=>(h.block k (Array.getElem?_eq_some_iff.1 hk).1).trans hk⟩
theorem kt_between {w A B:World} (h:KT (TK w) w A) (k:KT (TK w) w B) (hs:A.heap.size≤B.heap.size):KT (TK w) A B:=⟨hs,fun i hi=>(k.2 i hi).trans (h.2 i hi).symm⟩
theorem kt_turn {N:Nat} {w A B:World} (h:KT (TK w) w A) (ht:Turn NoT N notCells A B) (hN:w.heap.size≤N):KT (TK w) w B:=⟨Nat.le_trans h.1 ht.size,fun k hk=>by
 have hk0:=hk;obtain⟨o,ho,-⟩:=hk;have hA:=(h.2 k hk0).trans ho;exact (ht.block k o hA (fun h=>h) (fun hn=>absurd (tk_lt hk0) (by omega))).trans ho.symm⟩
section
variable {w w':World} {pf pw:Nat} {R:Rp} {pv:Value} {Y:Sy}
theorem cansAll_any (h:SyAt w pf pw R pv Y) {N:Nat} (hk:FsOk Y.fs N) (hN:N≤999999) (hp:Pl Y.fs) (hw:Wy Y.fs) (hl:Y.fs.ns.length≤100000) (hd:Y.dead=false) (u:Us) (ht:u.data.size≤100000) (hu0:-9223372036854775808≤u.u) (hu1:u.u≤9223372036854775807) :
  Calls Tryz.prog 54 #[.pointer (some ⟨pf,0,none⟩),.agg #[.int .i64 u.u,.int .i64 u.g,.string u.data]] w fun e w'=>∃ v,e=.returned v∧OCn w' w.heap.size v (Y.fs.allCn false u)∧Below w.heap.size w w':=by
 have HD:=Lib.hid (fun w1 (hb1:Below w.heap.size w w1)=>cdata_any (h.keep hb1) hk hN hp hw hd u ht);have HOp:=Lib.hid (fun w1 (hb1:Below w.heap.size w w1) p=>copen_any (h.keep hb1) hk hN hp hl u p);have HPl:=Lib.hid (fun w1 (hb1:Below w.heap.size w w1) top path=>cplaces_any (h.keep hb1) hk hN hd u hu0 hu1 top path);have HSt:=Lib.hid (fun w1 (hb1:Below w.heap.size w w1)=>all_stopsU 4 (by omega) w1.heap.size (w1.alloc (.cells #[.pointer (some ⟨pf,0,none⟩)] 40)) (Blk.new w1 _ _) ((h.keep hb1).keep (balloc (Below.refl _ _) _)) hk hp hl);have HAl:=Lib.hid (all_any pf);obtain⟨S,hS⟩:∃ S,Y.fs=S:=⟨_,rfl⟩;rw [hS] at HD HOp HPl HSt ⊢;rw [hd] at HOp;have hd8:S.ds.length≤8:=by rw [←hS];exact hk.d8
 have HAll:=Lib.hid (show S.allCn false u=S.topsL.foldl (S.topCn false u) (S.homeL false u) from rfl);have HTl:=Lib.hid (topsL_len S);generalize S.allCn false u=out at HAll ⊢;have HH:=Lib.hid (show S.homeL false u=if (S.dataF false u).2=0 then (if (S.openF false u ⟨(S.dataF false u).1,nHome,⟨#[]⟩⟩).2=0 then [(S.openF false u ⟨(S.dataF false u).1,nHome,⟨#[]⟩⟩).1] else []) else [] from rfl);generalize S.homeL false u=L0 at HAll HH;generalize S.dataF false u=r at HD HH;obtain⟨no,e1⟩:=r;dsimp only at HD HH;clear h hk hp hl hd hw ht hS;refine (callsIn_wide (n:=5)).1 ?_;refine callsIn_of_wp_marks Tryz.func54 rfl trivial ?_ rfl;simp only [Tryz.ntmps54,List.size_toArray,List.length_cons,List.length_nil,Nat.reduceAdd,Nat.reduceSub,Array.replicate_succ,Array.replicate_zero,List.push_toArray,List.append_toArray,List.nil_append,List.cons_append];refine wpIn_wide.2 ?_;have hz1:(w.alloc (.cells #[.pointer (some ⟨pf,0,none⟩)] 40)).heap.size=w.heap.size+1:=by simp
 have hz2:((w.alloc (.cells #[.pointer (some ⟨pf,0,none⟩)] 40)).alloc (.cells #[.int .i64 u.u,.int .i64 u.g,.string u.data] 33)).heap.size=w.heap.size+2:=by simp
 have hI0:CAI w pf u [] (((w.alloc (.cells #[.pointer (some ⟨pf,0,none⟩)] 40)).alloc (.cells #[.int .i64 u.u,.int .i64 u.g,.string u.data] 33)).alloc (.cells #[.slice none 0 0] 131)):=by
  refine ⟨((Blk.new w _ _).old _).old _,?_,⟨_,?_,OCn.nil _ _⟩,balloc (balloc (balloc (Below.refl _ _) _) _) _⟩
  ·have:=(Blk.new (w.alloc (.cells #[.pointer (some ⟨pf,0,none⟩)] 40)) #[.int .i64 u.u,.int .i64 u.g,.string u.data] 33).old (.cells #[.slice none 0 0] 131)
   rwa [hz1] at this
  ·have:=Blk.new ((w.alloc (.cells #[.pointer (some ⟨pf,0,none⟩)] 40)).alloc (.cells #[.int .i64 u.u,.int .i64 u.g,.string u.data] 33)) #[.slice none 0 0] 131
   rwa [hz2] at this
 have hz3:(((w.alloc (.cells #[.pointer (some ⟨pf,0,none⟩)] 40)).alloc (.cells #[.int .i64 u.u,.int .i64 u.g,.string u.data] 33)).alloc (.cells #[.slice none 0 0] 131)).heap.size=w.heap.size+3:=by simp
 clear hz1 hz2;go_upto_region 2 with fail;generalize ((w.alloc (.cells #[.pointer (some ⟨pf,0,none⟩)] 40)).alloc (.cells #[.int .i64 u.u,.int .i64 u.g,.string u.data] 33)).alloc (.cells #[.slice none 0 0] 131)=w0 at hI0 hz3 ⊢;have HI0:=Lib.hid hI0;obtain⟨fc,ff,fz⟩:=hI0.f.facts;obtain⟨uc,uf,uz⟩:=hI0.us.facts;clear hI0;go_wp2_with fail;refine (HD.out _ HI0.out.below).mono ?_;rintro e w1 ⟨rfl,hb1⟩;have HI1:=Lib.hid (HI0.out.keep hb1);have hs1:w.heap.size+3≤w1.heap.size:=by
  have:=hb1.size;omega
 clear hb1 fc ff fz uc uf uz hz3;go_upto_if 23 with fail
 go_cut [] from 16 to 74 (fun wx=>CAI w pf u L0 wx∧L0.length≤1∧w1.heap.size≤wx.heap.size)
 case first=>
  obtain⟨fc,ff,fz⟩:=HI1.out.f.facts;obtain⟨uc,uf,uz⟩:=HI1.out.us.facts;by_cases h0:e1=0
  ·subst h0;have HH1:=Lib.hid (HH.out.trans (if_pos rfl));have HOk:=Lib.hid (HOp.out _ HI1.out.below ⟨no,nHome,⟨#[]⟩⟩);generalize S.openF false u ⟨no,nHome,⟨#[]⟩⟩=q at HOk HH1;obtain⟨x,e2⟩:=q;unfold Cn.v nHome at HOk;dsimp only at HOk HH1;go_wp2_with fail;refine HOk.out.mono ?_;rintro e w2 ⟨rfl,hb2⟩;have hC:=Blk.new w2 #[.string x.path,.int .i64 x.dir,.int .i64 x.info,.int .i64 x.files,.int .i64 x.out,.int .i64 x.way,.string x.top] 45;have hI2:=(HI1.out.keep hb2).keep (balloc (Below.refl w2.heap.size w2) (.cells #[.string x.path,.int .i64 x.dir,.int .i64 x.info,.int .i64 x.files,.int .i64 x.out,.int .i64 x.way,.string x.top] 45));have hs2:w1.heap.size+1≤(w2.alloc (.cells #[.string x.path,.int .i64 x.dir,.int .i64 x.info,.int .i64 x.files,.int .i64 x.out,.int .i64 x.way,.string x.top] 45)).heap.size:=by
    have:=hb2.size;rw [World.size_alloc];omega
   clear hb2 fc ff fz uc uf uz;go_upto_if 33 with fail;generalize w2.alloc (.cells #[.string x.path,.int .i64 x.dir,.int .i64 x.info,.int .i64 x.files,.int .i64 x.out,.int .i64 x.way,.string x.top] 45)=w3 at hC hI2 hs2 ⊢;have HI2:=Lib.hid hI2;obtain⟨cc,cf,cz⟩:=hC.facts;clear hC hI2;by_cases h2:e2=0
   ·subst h2;have HH2:=Lib.hid (HH1.out.trans (if_pos rfl));obtain⟨v,g,c,W1,k1,k2,k3,k4,k5,-⟩:=HI2.out.push x (by decide) (by omega) (KT.refl _ _);have HA:=Lib.hid k2;have HZ:=Lib.hid (And.intro k4 k5);obtain⟨oc,of,oz⟩:=k1.facts;obtain⟨rc,rf,rz⟩:=k3.facts;clear k1 k2 k3 k4 k5;go_wp2_with (at_builtin;refine wpList_app_run rfl rfl rfl rfl HA.out ?_);go_meet;rw [HH2.out];exact⟨HZ.out.1,by simp,Nat.le_trans (by omega) HZ.out.2.size⟩
   ·have h2':(e2 == 0)=false:=by simpa using h2
    have HH2:=Lib.hid (HH1.out.trans (if_neg h2));clear h2;go_wp2_with fail;go_meet;rw [HH2.out];exact⟨HI2.out,by simp,by omega⟩
  ·have h0':(e1 == 0)=false:=by simpa using h0
   have HH1:=Lib.hid (HH.out.trans (if_neg h0));clear h0;go_wp2_with fail;go_meet;rw [HH1.out];exact⟨HI1.out,by simp,Nat.le_refl _⟩
 case rest=>
  obtain⟨hI2,hL1,hs2⟩:=hcut;generalize wc=w2 at hI2 hs2 ⊢;have HI2:=Lib.hid hI2;have HL1:=Lib.hid hL1;have hSt:=HSt.out w2 hI2.below;have HA2:=Lib.hid (HAl.out w2);have hI3:=hI2.keep (balloc (Below.refl w2.heap.size w2) (.cells #[.pointer (some ⟨pf,0,none⟩)] 40));have hs3:w.heap.size+3≤(w2.alloc (.cells #[.pointer (some ⟨pf,0,none⟩)] 40)).heap.size:=by
   rw [World.size_alloc];omega
  obtain⟨fc,ff,fz⟩:=hI2.f.facts;clear hI2 hL1;go_wp2_with fail;refine HA2.out.mono ?_;rintro e w3 ⟨rfl,hw3⟩;rw [←hw3] at hSt hI3 hs3;have HS3:=Lib.hid hSt;have HI3:=Lib.hid hI3;clear hSt hI3 hw3 fc ff fz;go_wp2_with fail;refine (wpIn_wide (n:=5)).1 ?_;refine' wpIn_rangeU (T:=TK w3) rfl (by omega) (gf:=158) (lb:=#[.pointer (some ⟨w2.heap.size,0,none⟩)]) rfl trivial (enters_of Tryz.func158 (by kernel_rfl) rfl)
   HS3.out (fun k hk=>tk_lt hk) (KT.refl _ _) (fun _=>rfl)
   (fun pre W=>CAI w pf u (pre.foldl (S.topCn false u) L0) W∧KT (TK w3) w3 W)
   (fun _ _ _=>False)
   (fun pre A B h ht=>⟨h.1.turn ht (by omega),kt_turn h.2 ht (Nat.le_refl _)⟩) (fun c pre A B h ht=>h) ⟨HI3.out,KT.refl _ _⟩ _ ?assign ?body ?done (fun D c pre W _ _ h _=>h.elim)
  case assign=>
   intro L e W K hK;gi_wp2;exact hK
  case body=>
   intro lp pre x W hL hLW hI hv;have hpl:pre.length≤8:=by
    have h1:=hv.length_le;rw [List.length_append,List.length_singleton] at h1;have:=HTl.out;omega
   have hlj:(pre.foldl (S.topCn false u) L0).length≤17:=by
    have h1:=topCns_len (S:=S) (d:=false) (u:=u) pre L0;have:=HL1.out;omega
   have HLj:=Lib.hid (show (pre ++ [x]).foldl (S.topCn false u) L0=(S.placesF false u x.1 x.2).foldl (S.addCn false u) (pre.foldl (S.topCn false u) L0) by rw [List.foldl_append];rfl);generalize pre.foldl (S.topCn false u) L0=lj at hI hlj HLj;obtain⟨top,path⟩:=x;have HPk:=Lib.hid (HPl.out W hI.1.below top path);have hp2:=placesF_len S false u top path;dsimp only at HLj;generalize S.placesF false u top path=ps at HPk hp2 HLj;have HI:=Lib.hid hI;have hWs:w.heap.size+3≤W.heap.size:=Nat.le_trans hs3 hI.2.1;obtain⟨fc,ff,fz⟩:=hI.1.f.facts;obtain⟨uc,uf,uz⟩:=hI.1.us.facts;clear hI hv hpl;gi_wp2;refine ⟨trivial,callsIn_wide.2 (HPk.out.mono ?_)⟩;rintro e w5 ⟨v5,rfl,hP5,hb5⟩;obtain⟨pa,pcp,rfl,hq1,hq2,-⟩:=own_form hP5;have HP5:=Lib.hid (own_low (base':=w.heap.size+3) hP5 hWs);have HI5:=Lib.hid (And.intro (HI.out.1.keep hb5) (HI.out.2.trans (KT.of_below hb5 (fun k h=>Nat.lt_of_lt_of_le (tk_lt h) HI.out.2.1))));have HK5:=Lib.hid (kf_below (B:=w3.heap.size) hb5);clear hP5 hb5 fc ff fz uc uf uz;gi_wp2
   gi_loopw [48] (fun t48 wr=>∃ i:Nat,i≤ps.length∧t48=.int .i64 i∧CAI w pf u ((ps.take i).foldl (S.addCn false u) lj) wr∧wr.ownsRow (w.heap.size+3) 150 3 (.slice pa ps.length pcp) ps.length (ps.flatMap plC)∧KT (TK w3) w3 wr∧KeepsFrom w3.heap.size W wr) (fun t48 _=>ps.length - (intOf t48).toNat)
   case atStart=>exact ⟨0,Nat.zero_le _,rfl,HI5.out.1,HP5.out,HI5.out.2,HK5.out⟩
   case round=>
    obtain⟨i,hi,rfl,hI,hP,hkt,hkf⟩:=hrel;have HIr:=Lib.hid hI;have HPr:=Lib.hid hP;have HKr:=Lib.hid (And.intro hkt hkf);by_cases hlt:i<ps.length
    ·have hlq:((ps.take i).foldl (S.addCn false u) lj).length≤100:=by
      have h1:=addCns_len (S:=S) (d:=false) (u:=u) (ps.take i) lj;have h2:(ps.take i).length≤i:=List.length_take_le _ _;omega
     obtain⟨b,off,rfl,hbl,hc⟩:=slice_row plC_len (OPl.at (E:=150) (base:=w.heap.size+3) hP) i hlt;have c0:wr.cell? ⟨b,off+i*3,none⟩=some (.int .i64 ps[i].dir):=hc 0 (by decide);have c1:wr.cell? ⟨b,off+i*3+1,none⟩=some (.string ps[i].name):=hc 1 (by decide);have c2:wr.cell? ⟨b,off+i*3+2,none⟩=some (.string ps[i].top):=hc 2 (by decide);have HTk:=Lib.hid (show (ps.take (i+1)).foldl (S.addCn false u) lj=if (S.openF false u ps[i]).2=0 then putCn ((ps.take i).foldl (S.addCn false u) lj) (S.openF false u ps[i]).1 else (ps.take i).foldl (S.addCn false u) lj by rw [take_snoc ps i hlt,List.foldl_append];rfl);generalize ps[i]=p at c0 c1 c2 HTk;have hbp:=balloc (Below.refl wr.heap.size wr) (.cells #[.int .i64 p.dir,.string p.name,.string p.top] 150);have hI6:=hI.keep hbp;have HOk:=Lib.hid (HOp.out _ hI6.below p);have HI6:=Lib.hid hI6;generalize S.openF false u p=q at HTk HOk;generalize (ps.take i).foldl (S.addCn false u) lj=lq at HIr HTk hlq HI6;obtain⟨x,e2⟩:=q;unfold Cn.v at HOk;dsimp only at HTk HOk;obtain⟨fc,ff,fz⟩:=hI.f.facts;obtain⟨uc,uf,uz⟩:=hI.us.facts;clear hc hI hP hkt hkf hI6;gi_wp2;refine ⟨trivial,callsIn_wide.2 (HOk.out.mono ?_)⟩;rintro e w7 ⟨rfl,hb7⟩;have hC:=Blk.new w7 #[.string x.path,.int .i64 x.dir,.int .i64 x.info,.int .i64 x.files,.int .i64 x.out,.int .i64 x.way,.string x.top] 45;have hbC:=balloc (Below.refl w7.heap.size w7) (.cells #[.string x.path,.int .i64 x.dir,.int .i64 x.info,.int .i64 x.files,.int .i64 x.out,.int .i64 x.way,.string x.top] 45);have hb8:=bnext hbp (bnext hb7 hbC);have hI8:=(HI6.out.keep hb7).keep hbC;obtain⟨v,ho,hO⟩:=hI8.o;obtain⟨a,c,rfl,hc1,hc2,-⟩:=own_form hO;have HH8:=Lib.hid (chas_any lq a _ c x.dir _ hO.at);have HI8:=Lib.hid hI8;have HP8:=Lib.hid (own_below HPr.out hb8 (Nat.le_refl _));have HK8:=Lib.hid (And.intro (HKr.out.1.trans (KT.of_below hb8 (fun k h=>Nat.lt_of_lt_of_le (tk_lt h) HKr.out.1.1))) (HKr.out.2.trans (kf_below hb8)));obtain⟨oc,of,oz⟩:=ho.facts;obtain⟨cc,cf,cz⟩:=hC.facts;have HC:=Lib.hid hC;clear hC hbC hb8 hI8 ho hO hb7 hbp fc ff fz uc uf uz c0 c1 c2;by_cases h2:e2=0
     ·subst h2;have HT2:=Lib.hid (HTk.out.trans (if_pos rfl));unfold putCn at HT2;generalize lq.any (fun y=>y.dir == x.dir)=hs at HH8 HT2;gi_wp2;refine ⟨trivial,callsIn_wide.2 (HH8.out.mono ?_)⟩;rintro e w9 ⟨rfl,hb9⟩;have HI9:=Lib.hid (HI8.out.keep hb9);have HP9:=Lib.hid (own_below HP8.out hb9 (Nat.le_refl _));have HK9:=Lib.hid (And.intro (HK8.out.1.trans (KT.of_below hb9 (fun k h=>Nat.lt_of_lt_of_le (tk_lt h) HK8.out.1.1))) (HK8.out.2.trans (kf_below hb9)));have hC9:=HC.out.keep hb9;clear oc of oz cc cf cz hb9;obtain⟨cc,cf,cz⟩:=hC9.facts;clear hC9
      cases hs with
      | true=>
       have HT3:=Lib.hid (HT2.out.trans (if_pos rfl));gi_wp2;go_roundw
       case measure=>simp [intOf];omega
       case rel=>exact ⟨i+1,by omega,by go_num,by rw [HT3.out];exact HI9.out,HP9.out,HK9.out.1,HK9.out.2⟩
      | false=>
       have HT3:=Lib.hid (HT2.out.trans (if_neg (by decide)));obtain⟨v,g,c',W1,k1,k2,k3,k4,k5,k6,k7⟩:=HI9.out.push x (by omega) (Nat.le_trans hWs HK9.out.2.size) HK9.out.1;have HA:=Lib.hid k2;have HZ:=Lib.hid (And.intro k4 (And.intro (k7 _ _ _ _ HP9.out (Nat.le_refl _)) (And.intro k6 (HK9.out.2.trans (k5.from _)))));obtain⟨oc,of,oz⟩:=k1.facts;obtain⟨rc,rf,rz⟩:=k3.facts;clear k1 k2 k3 k4 k5 k6 k7
       gi_wp2_with (gi_at_builtin;refine wpListIn_app_run1 rfl rfl rfl rfl HA.out ?_)
       go_roundw
       case measure=>simp [intOf];omega
       case rel=>exact ⟨i+1,by omega,by go_num,by rw [HT3.out];exact HZ.out.1,HZ.out.2.1,HZ.out.2.2.1,HZ.out.2.2.2⟩
     ·have h2':(e2 == 0)=false:=by simpa using h2
      have HT2:=Lib.hid (HTk.out.trans (if_neg h2));clear h2;gi_wp2;refine ⟨trivial,?_⟩;gi_wp2;go_roundw
      case measure=>simp [intOf];omega
      case rel=>exact ⟨i+1,by omega,by go_num,by rw [HT2.out];exact HI8.out,HP8.out,HK8.out.1,HK8.out.2⟩
    ·obtain rfl:i=ps.length:=by omega
     rw [List.take_length] at hI;have HIz:=Lib.hid hI;clear hI hP hkt hkf;gi_wp2;exact⟨HKr.out.2,kt_between HI.out.2 HKr.out.1 HKr.out.2.size,by rw [HLj.out];exact HIz.out,HKr.out.1⟩
  case done=>
   intro D xs W hD hxs hI hK2;subst hxs;rw [←HAll.out] at hI;obtain⟨v,ho,hO⟩:=hI.1.o;obtain⟨oc,of,oz⟩:=ho.facts;have HO:=Lib.hid (And.intro hO hI.1.below);clear hI ho hO;go_wp2_with fail;show LeavesInM Fence.wide 5 Tryz.prog Tryz.f54 _ _ _ _ W;refine ⟨by simp,.inl ⟨_,_,rfl,run_takeDeferred hK2,?_⟩⟩;have hm:Below D W (W.putObj D (.deferred none)):=⟨rfl,rfl,rfl,by simp,fun k hk=>World.putObj_heap_other (by omega)⟩;refine ⟨v,by simp [results,Tryz.results54,go_sem],v,rfl,?_,HO.out.2.trans (hm.mono (by have:=HI3.out.below.size;omega))⟩;refine own_low (own_turn HO.out.1 (fun k hk=>?_)) (Nat.le_add_right _ _);obtain⟨-,cur,hc⟩:=own_obj1 HO.out.1 hk;exact World.putObj_heap_other (fun e=>by
    subst e;rw [hK2] at hc
    cases hc)
end
end
section
open Go.RowKit
def is33:List It:=[⟨ByteArray.mk #[47],1,511,0,0,0,ByteArray.mk #[]⟩]
def us33:Us:=⟨5,5,ByteArray.mk #[47]⟩
def cn33:Cn:=⟨ByteArray.mk #[47,84,114,97,115,104],2,3,4,5,6,ByteArray.mk #[]⟩
def ln33:List Ln:=[⟨3,0,ByteArray.mk #[100]⟩,⟨4,-1,ByteArray.mk #[101]⟩]
def y33:Sy:=⟨plantF [] is33,7,0,[],false⟩
def y33b:Sy:=(y33.filledF us33 1 ln33).1
def y33c:Sy:=(y33b.refreshF 100 ⟨5,5⟩ cn33).1
end
section
open Go.RowKit
def ln34:List Ln:=[⟨3,-1,ByteArray.mk #[100]⟩]
def y34:Sy:=⟨plantF [] is33,0,0,[],false⟩
def y34b:Sy:=(y34.filledF us33 1 ln34).1
def y34c:Sy:=(y34b.op (fun S now=>S.file ⟨5,5⟩ now 3 (ByteArray.mk #[100,46,116,114,97,115,104,105,110,102,111]) 384 tx34)).1
def ey34:Ey:=⟨ByteArray.mk #[47,84,114,97,115,104],ByteArray.mk #[100],ByteArray.mk #[47,97,47,100],9,3,true⟩
theorem ok34:SyOk y34 2:=⟨plant_fine [] is33,Int.le_refl _,by show (0:Int)≤_;omega,Nat.zero_le _⟩
theorem ok34b:SyOk y34b 25:=ok34.filledF us33 1 ln34
theorem fi34:(y34.filledF us33 1 ln34).2=(cn33,true):=by kernel_rfl
theorem cr34:(y34b.op (fun S now=>S.file ⟨5,5⟩ now 3 (ByteArray.mk #[100,46,116,114,97,115,104,105,110,102,111]) 384 tx34)).2.2=0:=by kernel_rfl
theorem al34:y34c.fs.allCn false us33=[cn33]:=by kernel_rfl
theorem in34:y34c.fs.inF 100 false ⟨5,5⟩ cn33=([ey34],0):=by kernel_rfl
theorem li34:(y34c.fs.listF false ⟨5,5⟩ cn33.files).1.length=1:=by kernel_rfl
theorem dd34:y34c.dead=false:=by kernel_rfl
end
end Go.Proofs.YtbndfmkgamdgeaaGreatDoor
