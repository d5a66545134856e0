import Derived.Test.YtihdbncoijhihaaGreatDoorSN26
import Derived.Test.YtihdbncoijhihaaGreatDoorSN31
import Derived.Test.YtihdbncoijhihaaGreatDoorSN29
import Derived.Test.YtihdbncoijhihaaGreatDoorSN30
import Derived.Test.YtihdbncoijhihaaGreatDoorSN5
set_option linter.unusedVariables false
set_option linter.unusedSimpArgs false
set_option maxRecDepth 100000
set_option maxHeartbeats 16000000
namespace Go.Proofs.YtihdbncoijhihaaGreatDoor
section
open Go.RowKit
theorem rlimits22_any (w:World) {ma:Option Addr} {mn mc:Nat} {ia:Option Addr} {il ic:Nat} {ms:List Mt} {is:List It} (h:SdAt w ma mn mc ia il ic ms is) :
  Calls Tryz.prog 137 #[.agg #[.slice ma mn mc,.slice ia il ic]] w fun e w'=>e=.returned (.tuple #[.int .i64 (limitsF ms).1,.int .i64 (limitsF ms).2])∧Below w.heap.size w w':=by
 have HS:=Lib.hid h;have hln:=h.m.1;have hmc:=h.m.2.1;have hmx:=h.m.2.2.1;have hbx:=balloc (Below.refl w.heap.size w) (.cells #[.slice ma mn mc,.slice ia il ic] 25);have hsb:=Blk.new w #[.slice ma mn mc,.slice ia il ic] 25;clear h;go_enter Tryz.func137,Tryz.ntmps137;go_upto_region 1 with fail;generalize w.alloc (.cells #[.slice ma mn mc,.slice ia il ic] 25)=X0 at hbx hsb ⊢;have HX0:=Lib.hid hbx;have HSb:=Lib.hid hsb;clear hbx hsb;go_wp2_with fail
 go_loopw [4] (fun t4 wr=>∃ k:Nat,k≤ms.length∧t4=.int .i64 k∧limitsF ms=limitsF (ms.drop k)∧Below X0.heap.size X0 wr) (fun t4 _=>ms.length - (intOf t4).toNat)
 case atStart=>exact ⟨0,Nat.zero_le _,rfl,rfl,Below.refl _ _⟩
 case round=>
  obtain⟨k,hk,rfl,hE,hb⟩:=hrel;have HE:=Lib.hid hE;have HB:=Lib.hid (HX0.out.trans (hb.mono HX0.out.size));obtain⟨bc,bf,bz⟩:=(HSb.out.keep hb).facts;clear hE;by_cases hlt:k<ms.length
  ·obtain ⟨b,off,rfl,hbl⟩:=slice_some HS.out.m (by omega);obtain⟨c0,c1,c2⟩:=mt_cells (HS.out.m.below HB.out (Nat.le_refl _)) k hlt;have HQ:=Lib.hid (limitsF_drop hlt);generalize ms[k]=m at c0 c1 c2 HQ;obtain⟨mp,mb,mk⟩:=m;have hX:=Blk.new wr #[.string mp,.int .i64 mb,.int .i64 mk] 159;have hbX:=balloc hb (.cells #[.string mp,.int .i64 mb,.int .i64 mk] 159);clear hb;go_upto_region 5 with fail;generalize wr.alloc (.cells #[.string mp,.int .i64 mb,.int .i64 mk] 159)=X at hX hbX ⊢;have HX:=Lib.hid hX;have HBX0:=Lib.hid hbX;have HBX:=Lib.hid (HX0.out.trans (hbX.mono HX0.out.size));obtain⟨xc,xf,xz⟩:=hX.facts;clear hX hbX c0 c1 c2 bc bf bz;by_cases h1:mp=topB
   ·have h1':mp.toList=[47]:=by rw [h1,ba_list];rfl
    have HP:=Lib.hid h1;clear h1
    cases hlm:limB mb mk with
    | false=>
     have HN:=Lib.hid (HE.out.trans (HQ.out.trans (if_neg (fun h=>by have h9:limB mb mk=true:=h.2;rw [hlm] at h9;cases h9))));have HLm:=Lib.hid (fun w=>limits_any mb mk w);rw [hlm] at HLm;clear hlm;go_wp2_with fail;refine (HLm.out _).mono ?_;rintro e w3 ⟨rfl,rfl⟩;go_wp2_with fail;go_roundw
     case rel=>exact ⟨k+1,by omega,by go_num,HN.out,HBX0.out⟩
     case measure=>simp [intOf];omega
    | true=>
     have HN:=Lib.hid (HE.out.trans (HQ.out.trans (if_pos ⟨HP.out,hlm⟩)));have HLm:=Lib.hid (fun w=>limits_any mb mk w);rw [hlm] at HLm;clear hlm;have mixed:Tryz.prog.follows .mixedOrders=true:=by kernel_rfl
     go_wp2_with fail;refine (HLm.out _).mono ?_;rintro e w3 ⟨rfl,rfl⟩;go_wp2_with fail
     go_region
     all_goals
      go_wp2_with fail;go_ret2;rw [HN.out];exact⟨rfl,HBX.out.drew⟩
   ·have h1':(mp.toList == [47])=false:=by
     rw [ba_list];simp only [beq_eq_false_iff_ne,ne_eq];exact fun e=>h1 (ba_eq e)
    have HN:=Lib.hid (HE.out.trans (HQ.out.trans (if_neg (fun h=>h1 h.1))));go_wp2_with fail;go_roundw
    case rel=>exact ⟨k+1,by omega,by go_num,HN.out,HBX0.out⟩
    case measure=>simp [intOf];omega
  ·obtain rfl:k=ms.length:=by omega
   have HE2:=Lib.hid (show limitsF ms=(65536,65536) by rw [HE.out,List.drop_length];rfl);clear hb;go_wp2_with fail;go_ret2;rw [HE2.out];exact⟨rfl,HB.out⟩
theorem ns_mkdir {S:Fs} (c:Cr) (now dir:Int) (s:ByteArray) (m:Int):(S.mkdir c now dir s m).1.ns.length≤S.ns.length+1:=by
 have hmk:∀ a,(S.make a).1.ns.length≤S.ns.length+1:=fun a=>by
  unfold Fs.make
  split
  ·simp
  ·split
   ·simp
   ·simp only
    split
    ·show (S.ns ++ [_]).length≤_;simp
    ·simp
 unfold Fs.mkdir
 split
 ·simp
 ·unfold Fs.come
  split
  ·simp
  ·split
   ·simp
   ·split
    ·simp
    ·simp only
     split
     ·simp
     ·unfold Fs.touch
      split
      ·exact hmk _
      ·show (List.map _ _).length≤_;rw [List.length_map];exact hmk _
section
variable {w w':World} {pf:Nat} {R:Rf} {S:Fs}
theorem rmount22_any (h:RfAt w pf R S) {N:Nat} (hk:FsOk S N) (hN:N≤99990) (hgl:S.ns.length≤99990) (hnow:R.now=0) (m:Mt) (hp:m.path.size≤100000) :
  Calls Tryz.prog 139 #[.pointer (some ⟨pf,0,none⟩),.agg #[.string m.path,.int .i64 m.b,.int .i64 m.n]] w fun e w'=>e=.returned (.tuple #[])∧∃ R',RfAt w' pf R' (mountF S m)∧Stp (R.F pf) (R'.F pf) w w'∧Rf.Like R R':=by
 have hM0:=Blk.new w #[.string m.path,.int .i64 m.b,.int .i64 m.n] 159;have hb0:=balloc (Below.refl w.heap.size w) (.cells #[.string m.path,.int .i64 m.b,.int .i64 m.n] 159);have HF:=Lib.hid (rpathF_any (h.keep hb0) hk m.path hp false);have HSz:=Lib.hid (path_size2 hk c00 m.path (by omega) false);have HE1:=Lib.hid (mount_err (S:=S) (m:=m));have HE2:=Lib.hid (mount_new (S:=S) (m:=m));have HE3:=Lib.hid (mount_full (S:=S) (m:=m));have HE4:=Lib.hid (mount_old (S:=S) (m:=m));generalize mountF S m=Z at HE1 HE2 HE3 HE4 ⊢;generalize S.path c00 m.path false=x at HF HSz HE1 HE2 HE3 HE4;obtain⟨⟨xd,xn,xk,xs⟩,xe⟩:=x;unfold Fd.v at HF;have HH:=Lib.hid h;have HK:=Lib.hid hk;clear h hk;go_enter Tryz.func139,Tryz.ntmps139;go_wp2_with fail;refine HF.out.mono ?_;rintro e w1 ⟨rfl,hb1⟩;have hMX:=(hM0.keep hb1).old (.cells #[.int .i64 xd,.string xn,.int .i64 xk,.bool xs] 58);have hXX:=Blk.new w1 #[.int .i64 xd,.string xn,.int .i64 xk,.bool xs] 58;have hbX:=balloc (bnext hb0 hb1) (.cells #[.int .i64 xd,.string xn,.int .i64 xk,.bool xs] 58);have hlw:w.heap.size<w1.heap.size:=by have:=hb1.size;simp at this;omega
 clear hM0 hb0 hb1;go_upto_region 2 with fail;generalize w1.alloc (.cells #[.int .i64 xd,.string xn,.int .i64 xk,.bool xs] 58)=X at hMX hXX hbX ⊢;generalize w1.heap.size=D at hXX hlw ⊢;have HMX:=Lib.hid hMX;have HXX:=Lib.hid hXX;have HBX:=Lib.hid hbX;obtain⟨xc,xf,xz⟩:=hXX.facts;obtain⟨mc,mf,mz⟩:=hMX.facts;have HHX:=Lib.hid (HH.out.keep hbX);clear hMX hXX hbX;by_cases he:xe=0
 ·have heb:(xe == 0)=true:=by simpa using he
  subst he;by_cases hno:xk=0
  ·have hnb:(xk == 0)=true:=by simpa using hno
   have HM:=Lib.hid (rdir_any HHX.out HK.out (by omega) (by omega) xd xn (by exact HSz.out) 493);rw [hnow] at HM;have HE2a:=Lib.hid (HE2.out rfl hno);have HE3a:=Lib.hid (HE3.out rfl hno)
   try dsimp only at HE2a
   try dsimp only at HE3a
   try dsimp only at HM
   have HOk:=Lib.hid (mkdir_ok HK.out c00 0 xd xn 493);have HNl:=Lib.hid (ns_mkdir (S:=S) c00 0 xd xn 493);clear HE1 HE2 HE3 HE4 hno;generalize S.mkdir c00 0 xd xn 493=q at HM HE2a HE3a HOk HNl;obtain⟨S1,n1,e1⟩:=q
   try dsimp only at HM
   try dsimp only at HE2a
   try dsimp only at HE3a
   try dsimp only at HOk
   try dsimp only at HNl
   go_wp2_with fail;refine HM.out.mono ?_;rintro e w3 ⟨rfl,R3,hR3,hS3,hL3⟩;have hM3:=HMX.out.rf HHX.out hS3 rfl;have hX3:=HXX.out.rf HHX.out hS3 rfl;have HR3:=Lib.hid (And.intro hR3 (And.intro ((Stp.of_below HBX.out).trans hS3) hL3));have hF3:¬ R3.F pf D:=fun hk=>by
    rcases hS3.new D hk with h1 | h1
    ·have:=HH.out.lt h1;omega
    ·have:=HXX.out.lt;omega
   have hR4:=hR3.aside hX3 hF3 (by decide) 2 (.int .i64 n1);have hX4:=hX3.set 2 (.int .i64 n1);have hM4:=hM3.setOther ⟨D,2,none⟩ (.int .i64 n1) (show D≠w.heap.size by omega);have hst4:Stp (R.F pf) (R3.F pf) w (w3.setCell ⟨D,2,none⟩ (.int .i64 n1)):=⟨HR3.out.2.1.mod.setCell (a:=⟨D,2,none⟩) (.inr (by show w.heap.size≤D;omega)) _,HR3.out.2.1.new⟩;have HR4:=Lib.hid (And.intro hR4 hst4);obtain⟨xc3,xf3,xz3⟩:=hX3.facts;obtain⟨mc3,mf3,mz3⟩:=hM3.facts;have hne:¬ D=w.heap.size:=by omega
   have hne2:¬ w.heap.size=D:=by omega
   by_cases h1:e1=0
   ·have h1b:(e1 == 0)=true:=by simpa using h1
    have HE:=Lib.hid (HE2a.out h1);have HMo:=Lib.hid (rmount_any hR4 HOk.out (by omega) (by have:=HNl.out;omega) n1 m.b m.n);clear xc xf xz mc mf mz hR3 hS3 hL3 hM3 hX3 hF3 hR4 hX4 hM4 hst4 h1;go_wp2_with fail;refine HMo.out.mono ?_;rintro e w5 ⟨rfl,R5,hR5,hS5,hL5⟩;have HR5:=Lib.hid (And.intro hR5 (And.intro (HR4.out.2.trans hS5) (HR3.out.2.2.trans hL5)));clear hR5 hS5 hL5;go_wp2_with fail
    go_end0
    rw [HE.out];exact⟨rfl,R5,HR5.out⟩
   ·have h1b:(e1 == 0)=false:=by simpa using h1
    have HE:=Lib.hid (HE3a.out h1);clear xc xf xz mc mf mz hR3 hS3 hL3 hM3 hX3 hF3 hR4 hX4 hM4 hst4 h1;go_wp2_with fail
    go_end0
    rw [HE.out];exact⟨rfl,R3,HR4.out.1,HR4.out.2,HR3.out.2.2⟩
  ·have hnb:(xk == 0)=false:=by simpa using hno
   have HM:=Lib.hid (rmount_any HHX.out HK.out (by omega) (by omega) xk m.b m.n);have HE:=Lib.hid (HE4.out rfl hno)
   try dsimp only at HE
   clear HE1 HE2 HE3 HE4 hno;go_wp2_with fail;refine HM.out.mono ?_;rintro e w3 ⟨rfl,R3,hR3,hS3,hL3⟩;have HR3:=Lib.hid (And.intro hR3 (And.intro ((Stp.of_below HBX.out).trans hS3) hL3));clear hR3 hS3 hL3;go_wp2_with fail
   go_end0
   rw [HE.out];exact⟨rfl,R3,HR3.out⟩
 ·have heb:(xe == 0)=false:=by simpa using he
  have HE:=Lib.hid (HE1.out he);clear HE1 HE2 HE3 HE4 he;go_wp2_with fail
  go_end0
  rw [HE.out];exact⟨rfl,R,HHX.out,Stp.of_below HBX.out,Rf.Like.refl R⟩
end
end
section
open Go.RowKit
section
variable {w w':World} {pf:Nat} {R:Rf} {S:Fs}
theorem rnode22_any (h:RfAt w pf R S) {N:Nat} (hk:FsOk S N) (hN:N≤99990) (hgl:S.ns.length≤99990) (hnow:R.now=0) (it:It) (hp:it.path.size≤100000) (hd:it.data.size≤100000) :
  Calls Tryz.prog 140 #[.pointer (some ⟨pf,0,none⟩),.agg #[.string it.path,.int .i64 it.kind,.int .i64 it.mode,.int .i64 it.uid,.int .i64 it.gid,.int .i64 it.mtime,.string it.data]] w fun e w'=>e=.returned (.int .i64 (nodeF S it).2)∧∃ R',RfAt w' pf R' (nodeF S it).1∧Stp (R.F pf) (R'.F pf) w w'∧Rf.Like R R':=by
 have hI0:=Blk.new w #[.string it.path,.int .i64 it.kind,.int .i64 it.mode,.int .i64 it.uid,.int .i64 it.gid,.int .i64 it.mtime,.string it.data] 161;have hb0:=balloc (Below.refl w.heap.size w) (.cells #[.string it.path,.int .i64 it.kind,.int .i64 it.mode,.int .i64 it.uid,.int .i64 it.gid,.int .i64 it.mtime,.string it.data] 161);have HF:=Lib.hid (rpathF_any (h.keep hb0) hk it.path hp false);have HSz:=Lib.hid (path_size2 hk c00 it.path (by omega) false);generalize hx:S.path c00 it.path false=x at HF HSz;obtain⟨⟨xd,xn,xk,xs⟩,xe⟩:=x;have HPx:=Lib.hid hx;unfold Fd.v at HF;have HH:=Lib.hid h;have HK:=Lib.hid hk;clear h hk hx;go_enter Tryz.func140,Tryz.ntmps140;go_wp2_with fail;refine HF.out.mono ?_;rintro e w1 ⟨rfl,hb1⟩;have hIX:=(hI0.keep hb1).old (.cells #[.int .i64 xd,.string xn,.int .i64 xk,.bool xs] 58);have hXX:=Blk.new w1 #[.int .i64 xd,.string xn,.int .i64 xk,.bool xs] 58;have hbX:=balloc (bnext hb0 hb1) (.cells #[.int .i64 xd,.string xn,.int .i64 xk,.bool xs] 58);clear hI0 hb0 hb1;go_upto_region 2 with fail;generalize w1.alloc (.cells #[.int .i64 xd,.string xn,.int .i64 xk,.bool xs] 58)=X at hIX hXX hbX ⊢;generalize w1.heap.size=D at hXX ⊢;have HIX:=Lib.hid hIX;have HXX:=Lib.hid hXX;have HBX:=Lib.hid hbX;obtain⟨xc,xf,xz⟩:=hXX.facts;obtain⟨ic,if',iz⟩:=hIX.facts;have HHX:=Lib.hid (HH.out.keep hbX);clear hIX hXX hbX;by_cases he:xe=0
 ·have heb:(xe != 0)=false:=by simpa using he
  by_cases hno:xk=0
  ·have hnb:(xk != 0)=false:=by simpa using hno
   have HQ0:=Lib.hid (node_new (it:=it) HPx.out he hno)
   try dsimp only at HQ0
   clear he hno;by_cases g1:it.kind=1
   ·have p1:(it.kind == 1)=true:=by simpa using g1
    have HQ:=Lib.hid (HQ0.out.trans (if_pos g1));have HM:=Lib.hid (rdir_any HHX.out HK.out (by omega) (by omega) xd xn (by exact HSz.out) 493);have kk:it.kind=1:=g1;clear g1;rw [hnow] at HM;go_wp2_with fail;refine HM.out.mono ?_;rintro e w3 ⟨rfl,R3,hR3,hS3,hL3⟩;have HR3:=Lib.hid (And.intro hR3 (And.intro ((Stp.of_below HBX.out).trans hS3) hL3));clear hR3 hS3 hL3 xc xf xz ic if' iz;go_wp2_with fail;go_ret;rw [HQ.out];exact⟨rfl,R3,HR3.out⟩
   ·have p1:(it.kind == 1)=false:=by simpa using g1
    have HQ1:=Lib.hid (HQ0.out.trans (if_neg g1));by_cases g2:it.kind=2
    ·have p2:(it.kind == 2)=true:=by simpa using g2
     have HQ:=Lib.hid (HQ1.out.trans (if_pos g2));have HM:=Lib.hid (rfile_any HHX.out HK.out (by omega) (by omega) xd xn (by exact HSz.out) 420 it.data);have kk:it.kind=2:=g2;clear g2;rw [hnow] at HM;go_wp2_with fail;refine HM.out.mono ?_;rintro e w3 ⟨rfl,R3,hR3,hS3,hL3⟩;have HR3:=Lib.hid (And.intro hR3 (And.intro ((Stp.of_below HBX.out).trans hS3) hL3));clear hR3 hS3 hL3 xc xf xz ic if' iz;go_wp2_with fail;go_ret;rw [HQ.out];exact⟨rfl,R3,HR3.out⟩
    ·have p2:(it.kind == 2)=false:=by simpa using g2
     have HQ2:=Lib.hid (HQ1.out.trans (if_neg g2));by_cases g3:it.kind=3
     ·have p3:(it.kind == 3)=true:=by simpa using g3
      have HQ:=Lib.hid (HQ2.out.trans (if_pos g3));have HM:=Lib.hid (rsym_any HHX.out HK.out (by omega) (by omega) xd xn (by exact HSz.out) it.data (by omega));have kk:it.kind=3:=g3;clear g3;rw [hnow] at HM;go_wp2_with fail;refine HM.out.mono ?_;rintro e w3 ⟨rfl,R3,hR3,hS3,hL3⟩;have HR3:=Lib.hid (And.intro hR3 (And.intro ((Stp.of_below HBX.out).trans hS3) hL3));clear hR3 hS3 hL3 xc xf xz ic if' iz;go_wp2_with fail;go_ret;rw [HQ.out];exact⟨rfl,R3,HR3.out⟩
     ·have p3:(it.kind == 3)=false:=by simpa using g3
      have HQ3:=Lib.hid (HQ2.out.trans (if_neg g3));by_cases g4:it.kind=4
      ·have p4:(it.kind == 4)=true:=by simpa using g4
       have HQ4:=Lib.hid (HQ3.out.trans (if_pos g4));have HF2:=Lib.hid (rpathF_any HHX.out HK.out it.data hd false);clear g4;generalize hy:S.path c00 it.data false=y at HQ4 HF2;obtain⟨⟨yd,yn,yk,ys⟩,ye⟩:=y
       try dsimp only at HQ4
       unfold Fd.v at HF2;clear hy;go_wp2_with fail;refine HF2.out.mono ?_;rintro e w3 ⟨rfl,hb3⟩;have hX3:=(HXX.out.keep hb3).old (.cells #[.int .i64 yd,.string yn,.int .i64 yk,.bool ys] 58);have hY3:=Blk.new w3 #[.int .i64 yd,.string yn,.int .i64 yk,.bool ys] 58;have hb4:=balloc (bnext HBX.out hb3) (.cells #[.int .i64 yd,.string yn,.int .i64 yk,.bool ys] 58);go_upto_region 18 with fail;generalize w3.alloc (.cells #[.int .i64 yd,.string yn,.int .i64 yk,.bool ys] 58)=Y at hX3 hY3 hb4 ⊢;have HB4:=Lib.hid hb4;have HHY:=Lib.hid (HH.out.keep hb4);clear xc xf xz ic if' iz hb3 hb4;obtain⟨xc,xf,xz⟩:=hX3.facts;obtain⟨yc,yf,yz⟩:=hY3.facts;clear hX3 hY3;by_cases hye:ye=0
       ·have hyb:(ye == 0)=true:=by simpa using hye
        have HQ:=Lib.hid (HQ4.out.trans (if_pos hye));have HM:=Lib.hid (rhard_any HHY.out HK.out (by omega) yk xd xn (by exact HSz.out));rw [hnow] at HM;clear hye;go_wp2_with fail;refine HM.out.mono ?_;rintro e w5 ⟨rfl,R3,hR3,hS3,hL3⟩;have HR3:=Lib.hid (And.intro hR3 (And.intro ((Stp.of_below HB4.out).trans hS3) hL3));clear hR3 hS3 hL3 xc xf xz yc yf yz;go_wp2_with fail;go_ret;rw [HQ.out];exact⟨rfl,R3,HR3.out⟩
       ·have hyb:(ye == 0)=false:=by simpa using hye
        have HQ:=Lib.hid (HQ4.out.trans (if_neg hye));clear hye;go_wp2_with fail;go_ret;rw [HQ.out];exact⟨rfl,R,HHY.out,Stp.of_below HB4.out,Rf.Like.refl R⟩
      ·have p4:(it.kind == 4)=false:=by simpa using g4
       have HQ:=Lib.hid (HQ3.out.trans (if_neg g4));clear g1 g2 g3 g4;go_wp2_with fail;go_ret;rw [HQ.out];exact⟨rfl,R,HHX.out,Stp.of_below HBX.out,Rf.Like.refl R⟩
  ·have hnb:(xk != 0)=true:=by simpa using hno
   by_cases h1:it.kind=1
   ·have q1:(it.kind == 1)=true:=by simpa using h1
    obtain⟨na,nl,nc,-,hG⟩:=rgetZ_fix HH.out xk;have HG:=Lib.hid (hG X HBX.out);have hkz:(S.getZ xk).kind=S.kindOf xk:=by
     unfold Fs.getZ Fs.kindOf
     cases S.get xk <;> rfl
    unfold An.v at HG;have hfd:∀ (a:An) (w:World),(Instr.field 109 (.agg #[.int .i64 a.no,.int .i64 a.dev,.int .i64 a.kind,.int .i64 a.mode,.int .i64 a.uid,.int .i64 a.gid,.int .i64 a.mtime,.int .i64 a.ctime,.int .i64 a.links,.int .i64 a.up,.string a.data,.slice na nl nc]) 2).run Tryz.prog w=.ok (.int .i64 a.kind) w:=fun _ _=>by kernel_rfl
    by_cases h2:S.kindOf xk=1
    ·have HQ:=Lib.hid (node_old (it:=it) HPx.out he hno h1 h2);have q2:((S.getZ xk).kind == 1)=true:=by rw [hkz];simpa using h2
     generalize S.getZ xk=nd at HG q2;clear he hno h1 h2 hG hkz;go_wp2_with fail;refine HG.out.mono ?_;rintro e w3 ⟨rfl,hb3⟩;have HB3:=Lib.hid (bnext HBX.out hb3);have hX3:=HXX.out.keep hb3;clear xc xf xz ic if' iz hb3;obtain⟨xc,xf,xz⟩:=hX3.facts;go_wp2_with fail;go_ret;rw [HQ.out];exact⟨rfl,R,HH.out.keep HB3.out,Stp.of_below HB3.out,Rf.Like.refl R⟩
    ·have HQ:=Lib.hid (node_had (it:=it) HPx.out he hno (fun h=>h2 h.2));have q2:((S.getZ xk).kind == 1)=false:=by rw [hkz];simpa using h2
     generalize S.getZ xk=nd at HG q2;clear he hno h1 h2 hG hkz;go_wp2_with fail;refine HG.out.mono ?_;rintro e w3 ⟨rfl,hb3⟩;have HB3:=Lib.hid (bnext HBX.out hb3);clear xc xf xz ic if' iz hb3;go_wp2_with fail;go_ret;rw [HQ.out];exact⟨rfl,R,HH.out.keep HB3.out,Stp.of_below HB3.out,Rf.Like.refl R⟩
   ·have q1:(it.kind == 1)=false:=by simpa using h1
    have HQ:=Lib.hid (node_had (it:=it) HPx.out he hno (fun h=>h1 h.1));clear he hno h1;go_wp2_with fail;go_ret;rw [HQ.out];exact⟨rfl,R,HHX.out,Stp.of_below HBX.out,Rf.Like.refl R⟩
 ·have heb:(xe != 0)=true:=by simpa using he
  have HQ:=Lib.hid (node_err (it:=it) HPx.out he);clear he;go_wp2_with fail;go_ret;rw [HQ.out];exact⟨rfl,R,HHX.out,Stp.of_below HBX.out,Rf.Like.refl R⟩
end
end
section
open Go.RowKit
section
variable {w w':World} {pf:Nat} {R R':Rf} {S:Fs}
theorem OI.rf {base:Nat} {v:Value} {l:List Int} (ho:OI w base v l) (h:RfAt w pf R S) {F':Nat→Prop} (hs:Stp (R.F pf) F' w w'):OI w' base v l:=
 own_mod ho hs.mod (fun k hk he=>by
  obtain⟨-,cur,hc⟩:=own_obj1 ho he;obtain⟨o,h1,hd⟩:=h.kind hk;rw [hc] at h1;injection h1 with h1;subst h1;rw [show rfKind (.cells cur 3 (0,0))=false from rfl] at hd
  cases hd)
theorem RfAt.oi (h:RfAt w pf R S) {base:Nat} {v:Value} {l:List Int} (ho:OI w base v l) (hm:Mod (fun j=>v.ownBlock=some j) w w'):RfAt w' pf R S:=
 h.mod hm (fun k o hk hk2=>by
  obtain⟨-,cur,hc⟩:=own_obj1 ho hk;rw [hc] at hk2;injection hk2 with hk2;subst hk2;exact⟨rfl,fun cur e=>by cases e⟩)
structure PlRf (w wr:World) (pf:Nat) (S:Fs):Prop where
 st:∃ R,RfAt wr pf R S∧Rf.Like rf0 R∧∀ k,R.F pf k→w.heap.size≤k
 below:Below w.heap.size w wr
theorem PlRf.keep {wr:World} (h:PlRf w wr pf S) (hb:Below wr.heap.size wr w'):PlRf w w' pf S:=by
 obtain⟨⟨R,h1,h2,h3⟩,h6⟩:=h;exact⟨⟨R,h1.keep hb,h2,h3⟩,bnext h6 hb⟩
theorem PlRf.of {wr:World} (hb:Below w.heap.size w wr) (hl:Rf.Like rf0 R) (hF:∀ k,R.F pf k→w.heap.size≤k) (hR:RfAt w' pf R' S) (hS:Stp (R.F pf) (R'.F pf) wr w') (hL:Rf.Like R R'):PlRf w w' pf S:=
 ⟨⟨R',hR,hl.trans hL,hS.above hF hb.size⟩,hb.trans (hS.below hF hb.size)⟩
theorem PlRf.oi {wr:World} (h:PlRf w wr pf S) {v:Value} {l:List Int} (ho:OI wr w.heap.size v l) (hm:Mod (fun j=>v.ownBlock=some j) wr w'):PlRf w w' pf S:=by
 obtain⟨⟨R,h1,h2,h3⟩,h6⟩:=h;exact⟨⟨R,h1.oi ho hm,h2,h3⟩,h6.trans (hm.below (fun k hk=>(own_obj1 ho hk).1) h6.size)⟩
theorem pl_small {N:Nat} (h:FsOk S N) (hp:Pl S):S.ns.length≤N:=by
 have h1:=hp.len;have h2:=h.lN;omega
theorem itemF_eq (S:Fs) (it:It):itemF S it=if (nodeF S it).2≠0 then ((((nodeF S it).1.chown c00 0 (nodeF S it).2 it.uid it.gid).1.chmod c00 0 (nodeF S it).2 it.mode).1,(nodeF S it).2) else nodeF S it:=rfl
end
theorem rplant22K_any (w:World) {ma:Option Addr} {mn mc:Nat} {ia:Option Addr} {il ic:Nat} {ms:List Mt} {is:List It} (h:SdAt w ma mn mc ia il ic ms is) (hml:ms.length≤10000) (hil:is.length≤10000)
  (hmp:∀ m∈ms,m.path.size≤100000) (hip:∀ x∈is,x.path.size≤100000∧x.data.size≤100000) :
  Calls Tryz.prog 72 #[.agg #[.slice ma mn mc,.slice ia il ic]] w fun e w'=>∃ pf R,e=.returned (.pointer (some ⟨pf,0,none⟩))∧RfAt w' pf R (plantF ms is)∧(∀ k,R.F pf k→w.heap.size≤k)∧Rf.Like rf0 R∧Below w.heap.size w w':=by
 have HS:=Lib.hid h;have HL:=Lib.hid (rlimits22_any (w.alloc (.cells #[.slice ma mn mc,.slice ia il ic] 25)) (h.keep ((Below.refl _ w).alloc (Nat.le_refl _) _)));have HN:=Lib.hid (fun w=>rnew_any (limitsF ms).1 (limitsF ms).2 (limits_ok ms) w);have HMp:=Lib.hid hmp;have HIp:=Lib.hid hip;have hln:=h.m.1;have hli:=h.i.1;subst hln hli;have hB0:=Blk.new w #[.slice ma ms.length mc,.slice ia is.length ic] 25;have hb0:=balloc (Below.refl w.heap.size w) (.cells #[.slice ma ms.length mc,.slice ia is.length ic] 25);have HPl:=Lib.hid (show plantF ms is=timesF (itemsF (mountsF (fs0.addRoot 0 (limitsF ms).1 (limitsF ms).2) ms) is).1 (is.zip (itemsF (mountsF (fs0.addRoot 0 (limitsF ms).1 (limitsF ms).2) ms) is).2) from rfl);have HOk:=Lib.hid (And.intro (FsOk.new (limitsF ms).1 (limitsF ms).2) (Pl.new (limitsF ms).1 (limitsF ms).2));generalize fs0.addRoot 0 (limitsF ms).1 (limitsF ms).2=S0 at HN HPl HOk;generalize (limitsF ms).1=lb at HL HN;generalize (limitsF ms).2=ln at HL HN;clear h hmp hip;go_enter Tryz.func72,Tryz.ntmps72;go_wp2_with fail;refine HL.out.mono ?_;rintro e w1 ⟨rfl,hb1⟩;have hB1:=hB0.keep hb1;have hbw1:=bnext hb0 hb1;clear hB0 hb0 hb1;go_wp2_with fail;refine (HN.out _).mono ?_;rintro e w2 ⟨pf,R0,rfl,hR0,hF0,hL0,hb2⟩;have hB2:=hB1.keep hb2;have hP0:PlRf w w2 pf S0:=⟨⟨R0,hR0,hL0,fun k hk=>Nat.le_trans hbw1.size (hF0 k hk)⟩,bnext hbw1 hb2⟩;have HP0:=Lib.hid hP0;have HB2:=Lib.hid hB2;obtain⟨bc,bf,bz⟩:=hB2.facts;clear hB1 hbw1 hR0 hL0 hb2 hF0 hB2 hP0;go_wp2_with fail
 go_loopw [6] (fun t6 wr=>∃ k:Nat,k≤ms.length∧t6=.int .i64 k∧PlRf w wr pf (mountsF S0 (ms.take k))∧Blk wr w.heap.size #[.slice ma ms.length mc,.slice ia is.length ic] 25) (fun t6 _=>ms.length - (intOf t6).toNat)
 case atStart=>exact ⟨0,Nat.zero_le _,rfl,HP0.out,HB2.out⟩
 case round=>
  obtain⟨k,hk,rfl,hP,hB⟩:=hrel;have HP:=Lib.hid hP;have HB:=Lib.hid hB;clear bc bf bz;obtain⟨bc,bf,bz⟩:=hB.facts;have hbw:=hP.below;clear hP hB;by_cases hlt:k<ms.length
  ·obtain ⟨b,off,rfl,hbl⟩:=slice_some HS.out.m (by omega);obtain⟨c0,c1,c2⟩:=mt_cells (HS.out.m.below hbw (Nat.le_refl _)) k hlt;have HQ:=Lib.hid (show mountsF S0 (ms.take (k+1))=if ms[k].path=topB then mountsF S0 (ms.take k) else mountF (mountsF S0 (ms.take k)) ms[k] by rw [List.take_succ_eq_append_getElem hlt,mountsF_snoc]);have HMk:=Lib.hid (HMp.out ms[k] (List.getElem_mem hlt));have HOkk:=Lib.hid (show FsOk (mountsF S0 (ms.take k)) (1+2*k)∧Pl (mountsF S0 (ms.take k)) by
    have:=mountsF_ok HOk.out.1 (ms.take k);rw [List.length_take,Nat.min_eq_left hk] at this;exact⟨this,HOk.out.2.mountsF HOk.out.1 _⟩)
   generalize ms[k]=m at c0 c1 c2 HQ HMk;generalize hS2:mountsF S0 (ms.take (k+1))=S2 at HQ;have HS2:=Lib.hid hS2;clear hS2;generalize hSk:mountsF S0 (ms.take k)=Sk at HQ HP HOkk;have HSk:=Lib.hid hSk;clear hSk hbw;by_cases h1:m.path=topB
   ·have h1b:m.path.toList=[47]:=by rw [h1,ba_list];rfl
    have HE:=Lib.hid (HQ.out.trans (if_pos h1));clear h1;go_wp2_with fail;go_roundw
    case rel=>exact ⟨k+1,by omega,by go_num,by rw [show mountsF S0 (ms.take (k+1))=Sk from by rw [HS2.out];exact HE.out];exact HP.out,HB.out⟩
    case measure=>simp [intOf];omega
   ·have h1b:(m.path.toList == [47])=false:=by
     rw [ba_list];simp only [beq_eq_false_iff_ne,ne_eq];exact fun e=>h1 (ba_eq e)
    have HE:=Lib.hid (HQ.out.trans (if_neg h1));obtain⟨⟨R,hR,hlk,hF⟩,hbw⟩:=HP.out;have HM:=Lib.hid (rmount22_any hR HOkk.out.1 (by omega) (by have:=pl_small HOkk.out.1 HOkk.out.2;omega) hlk.now m HMk.out);have HW:=Lib.hid (And.intro hR (And.intro hlk (And.intro hF hbw)));clear h1 hR hlk hF hbw;go_wp2_with fail;refine HM.out.mono ?_;rintro e w5 ⟨rfl,R5,hR5,hS5,hL5⟩;obtain⟨hR,hlk,hF,hbw⟩:=HW.out;have HB5:=Lib.hid (HB.out.rf hR hS5 rfl);have HP5:=Lib.hid (PlRf.of hbw hlk hF hR5 hS5 hL5);clear hR5 hS5 hL5 hR hlk hF hbw;go_wp2_with fail;go_roundw
    case rel=>exact ⟨k+1,by omega,by go_num,by rw [show mountsF S0 (ms.take (k+1))=mountF Sk m from by rw [HS2.out];exact HE.out];exact HP5.out,HB5.out⟩
    case measure=>simp [intOf];omega
  ·obtain rfl:k=ms.length:=by omega
   rw [List.take_length] at HP;have HOk1:=Lib.hid (And.intro (mountsF_ok HOk.out.1 ms) (HOk.out.2.mountsF HOk.out.1 ms));generalize mountsF S0 ms=S1 at HP HOk1 HPl;have HO0:=Lib.hid (show OI wr w.heap.size (.slice none 0 0) [] from World.ownsRow_nil _ _ _ _);clear hbw;go_wp2_with fail
   go_loopw [8,7] (fun t8 t7 wr=>∃ (k:Nat) (a:Option Addr) (c:Nat),k≤is.length∧t8=.int .i64 k∧t7=.slice a k c∧OI wr w.heap.size (.slice a k c) (itemsF S1 (is.take k)).2∧PlRf w wr pf (itemsF S1 (is.take k)).1∧Blk wr w.heap.size #[.slice ma ms.length mc,.slice ia is.length ic] 25) (fun t8 _ _=>is.length - (intOf t8).toNat)
   case atStart=>exact ⟨0,_,_,Nat.zero_le _,rfl,rfl,HO0.out,HP.out,HB.out⟩
   case round=>
    obtain⟨k,a,c,hk,rfl,rfl,hO,hP,hB⟩:=hrel;have HO:=Lib.hid hO;have HP:=Lib.hid hP;have HB:=Lib.hid hB;clear bc bf bz;obtain⟨bc,bf,bz⟩:=hB.facts;have hbw:=hP.below;clear hP hB hO;by_cases hlt:k<is.length
    ·obtain ⟨b,off,rfl,hbl⟩:=slice_some HS.out.i (by omega);obtain⟨c0,c1,c2,c3,c4,c5,c6⟩:=it_cells (HS.out.i.below hbw (Nat.le_refl _)) k hlt;have HQ:=Lib.hid (show itemsF S1 (is.take (k+1))=((itemF (itemsF S1 (is.take k)).1 is[k]).1,(itemsF S1 (is.take k)).2 ++ [(itemF (itemsF S1 (is.take k)).1 is[k]).2]) by rw [List.take_succ_eq_append_getElem hlt,itemsF_snoc]);have HMk:=Lib.hid (HIp.out is[k] (List.getElem_mem hlt));have HOkk:=Lib.hid (show FsOk (itemsF S1 (is.take k)).1 (1+2*ms.length+k)∧Pl (itemsF S1 (is.take k)).1 by
      have:=itemsF_ok HOk1.out.1 (is.take k);rw [List.length_take,Nat.min_eq_left hk] at this;exact⟨this,HOk1.out.2.itemsF HOk1.out.1 _⟩)
     have HLk:=Lib.hid (show (itemsF S1 (is.take k)).2.length=k by rw [itemsF_len,List.length_take,Nat.min_eq_left hk]);generalize is[k]=it at c0 c1 c2 c3 c4 c5 c6 HQ HMk;generalize itemsF S1 (is.take k)=Sk at HQ HP HOkk HO HLk;obtain⟨Sk,Lk⟩:=Sk;have hX:=Blk.new wr #[.string it.path,.int .i64 it.kind,.int .i64 it.mode,.int .i64 it.uid,.int .i64 it.gid,.int .i64 it.mtime,.string it.data] 161;have hbX:=(Below.refl _ wr).alloc (Nat.le_refl _) (.cells #[.string it.path,.int .i64 it.kind,.int .i64 it.mode,.int .i64 it.uid,.int .i64 it.gid,.int .i64 it.mtime,.string it.data] 161);clear hbw;go_upto_region 13 with fail;generalize wr.alloc (.cells #[.string it.path,.int .i64 it.kind,.int .i64 it.mode,.int .i64 it.uid,.int .i64 it.gid,.int .i64 it.mtime,.string it.data] 161)=X at hX hbX ⊢;have HBX:=Lib.hid (HB.out.keep hbX);have HPX:=Lib.hid (HP.out.keep hbX);have HOX:=Lib.hid (own_below HO.out hbX (Nat.le_refl _));have HIX:=Lib.hid hX;obtain⟨xc,xf,xz⟩:=hX.facts;obtain⟨⟨R,hR,hlk,hF⟩,hbw⟩:=HPX.out;have HM:=Lib.hid (rnode22_any hR HOkk.out.1 (by omega) (by have:=pl_small HOkk.out.1 HOkk.out.2;omega) hlk.now it HMk.out.1 HMk.out.2);have HW:=Lib.hid (And.intro hR (And.intro hlk (And.intro hF hbw)));have HOk5:=Lib.hid (nodeF_ok HOkk.out.1 it);have HIt:=Lib.hid (itemF_eq Sk it);clear hX hbX c0 c1 c2 c3 c4 c5 c6 hR hlk hF hbw;go_wp2_with fail;refine HM.out.mono ?_;clear HM;rintro e w5 ⟨rfl,R5,hR5,hS5,hL5⟩;generalize nodeF Sk it=nd at hR5 HOk5 HIt ⊢;obtain⟨S5,no⟩:=nd;dsimp only at hR5 HOk5 HIt ⊢;obtain⟨hR,hlk,hF,hbw⟩:=HW.out;have hP5:=PlRf.of hbw hlk hF hR5 hS5 hL5;have hB5:=HBX.out.rf hR hS5 rfl;have hI5:=HIX.out.rf hR hS5 rfl;have hO5:OI w5 w.heap.size (.slice a Lk.length c) Lk:=by rw [HLk.out];exact OI.rf (l:=Lk) HOX.out hR hS5
     obtain⟨g,cap,W,hrun,hOW,hmW⟩:=hO5.app no (by rw [HLk.out];omega) hP5.below.size;have hPW:=hP5.oi hO5 hmW;have hBW:=hB5.oi hO5 hmW (by decide);have hIW:=hI5.oi hO5 hmW (by decide);rw [HLk.out] at hrun hOW;have HRun:=Lib.hid hrun;have HPW:=Lib.hid hPW;have HBW:=Lib.hid hBW;have HIW:=Lib.hid hIW;have HOW:=Lib.hid hOW;clear xc xf xz hP5 hR5 hS5 hL5 hR hlk hF hbw hB5 hI5 hO5 hrun hOW hmW hPW hBW;obtain⟨xc,xf,xz⟩:=hIW.facts;clear hIW;by_cases hno:no=0
     ·have hnb:(no != 0)=false:=by simpa using hno
      have HE:=Lib.hid (HIt.out.trans (if_neg (by simp [hno])));clear hno;go_wp2_with (at_builtin;refine wpList_app_run rfl rfl rfl rfl HRun.out ?_);go_roundw
      case rel=>
       refine ⟨k+1,_,cap,by omega,by go_num,rfl,?_,?_,HBW.out⟩
       ·rw [HQ.out,HE.out];exact HOW.out
       ·rw [HQ.out,HE.out];exact HPW.out
      case measure=>simp [intOf];omega
     ·have hnb:(no != 0)=true:=by simpa using hno
      have HE:=Lib.hid (HIt.out.trans (if_pos hno));clear hno;obtain⟨⟨R,hR,hlk,hF⟩,hbw⟩:=HPW.out;have hnow:=hlk.now;have HM:=Lib.hid (rowner_any hR HOk5.out no it.uid it.gid);rw [show R.now=0 from hnow] at HM;have HW:=Lib.hid (And.intro hR (And.intro hlk (And.intro hF hbw)));clear hR hlk hF hbw hnow;go_wp2_with (at_builtin;refine wpList_app_run rfl rfl rfl rfl HRun.out ?_);refine HM.out.mono ?_;clear HM;rintro e w6 ⟨rfl,R6,hR6,hS6,hL6⟩;obtain⟨hR,hlk,hF,hbw⟩:=HW.out;have hB6:=HBW.out.rf hR hS6 rfl;have hI6:=HIW.out.rf hR hS6 rfl;have hO6:=OI.rf HOW.out hR hS6;have hP6:=PlRf.of hbw hlk hF hR6 hS6 hL6;have HP6:=Lib.hid hP6;have HB6:=Lib.hid hB6;have HI6:=Lib.hid hI6;have HO6:=Lib.hid hO6;clear xc xf xz hP6 hB6 hR6 hS6 hL6 hR hlk hF hbw hO6;obtain⟨xc,xf,xz⟩:=hI6.facts;clear hI6 HW;obtain⟨⟨R,hR,hlk,hF⟩,hbw⟩:=HP6.out;have hnow:=hlk.now;have HM:=Lib.hid (rmode_any hR (chown_ok HOk5.out c00 0 no it.uid it.gid) no it.mode);rw [show R.now=0 from hnow] at HM;have HW:=Lib.hid (And.intro hR (And.intro hlk (And.intro hF hbw)));clear hR hlk hF hbw hnow;go_wp2_with fail;refine HM.out.mono ?_;clear HM;rintro e w7 ⟨rfl,R7,hR7,hS7,hL7⟩;obtain⟨hR,hlk,hF,hbw⟩:=HW.out;have HB7:=Lib.hid (HB6.out.rf hR hS7 rfl);have HO7:=Lib.hid (OI.rf HO6.out hR hS7);have HP7:=Lib.hid (PlRf.of hbw hlk hF hR7 hS7 hL7);clear hR7 hS7 hL7 hR hlk hF hbw;go_wp2_with fail;go_roundw
      case rel=>
       refine ⟨k+1,_,cap,by omega,by go_num,rfl,?_,?_,HB7.out⟩
       ·rw [HQ.out,HE.out];exact HO7.out
       ·rw [HQ.out,HE.out];exact HP7.out
      case measure=>simp [intOf];omega
    ·obtain rfl:k=is.length:=by omega
     rw [List.take_length] at HP HO;have HOk2:=Lib.hid (itemsF_ok HOk1.out.1 is);have HLm:=Lib.hid (itemsF_len S1 is);generalize itemsF S1 is=q at HP HO HOk2 HPl HLm;obtain⟨S2,made⟩:=q;dsimp only at HPl;have hml2:made.length=is.length:=HLm.out;clear hbw;go_wp2_with fail
     go_loopw [11] (fun t11 wr=>∃ k:Nat,k≤is.length∧t11=.int .i64 k∧OI wr w.heap.size (.slice a is.length c) made∧PlRf w wr pf (timesF S2 ((is.zip made).take k))∧Blk wr w.heap.size #[.slice ma ms.length mc,.slice ia is.length ic] 25) (fun t11 _=>is.length - (intOf t11).toNat)
     case atStart=>exact ⟨0,Nat.zero_le _,rfl,HO.out,HP.out,HB.out⟩
     case round=>
      obtain⟨k,hk,rfl,hO,hP,hB⟩:=hrel;have HO3:=Lib.hid hO;have HP3:=Lib.hid hP;have HB3:=Lib.hid hB;clear bc bf bz;obtain⟨bc,bf,bz⟩:=hB.facts;have hbw:=hP.below;clear hP hO hB;by_cases hlt:k<is.length
      ·obtain ⟨b,off,rfl,hbl⟩:=slice_some HS.out.i (by omega);obtain⟨c0,c1,c2,c3,c4,c5,c6⟩:=it_cells (HS.out.i.below hbw (Nat.le_refl _)) k hlt;have hkm:k<made.length:=by omega
       obtain⟨g,rfl⟩:∃ g,a=some ⟨g,0,none⟩:=by
        obtain⟨a1,c1,e1,-,-,hf⟩:=own_form HO3.out;injection e1 with e1 e2 e3;rcases hf with ⟨-,h0,-⟩|⟨g,hg,-,-⟩
        ·omega
        ·exact ⟨g,e1.trans hg⟩
       have hO4:OI wr w.heap.size (.slice (some ⟨g,0,none⟩) made.length c) made:=by rw [hml2];exact HO3.out
       have hgl:=(own_frozen hO4).2.2;have hmc:wr.cell? ⟨g,k,none⟩=some (.int .i64 made[k]):=hO4.cell k hkm;have HQ:=Lib.hid (show timesF S2 ((is.zip made).take (k+1))=if made[k]≠0 then ((timesF S2 ((is.zip made).take k)).utime c00 0 made[k] is[k].mtime).1 else timesF S2 ((is.zip made).take k) by
        rw [List.take_succ_eq_append_getElem (by rw [List.length_zip];omega),timesF_snoc,List.getElem_zip])
       have HOkk:=Lib.hid (timesF_ok HOk2.out ((is.zip made).take k));generalize is[k]=it at c0 c1 c2 c3 c4 c5 c6 HQ;generalize made[k]=no at hmc HQ;generalize timesF S2 ((is.zip made).take k)=Sk at HQ HP3 HOkk;clear hbw hO4;have HMl:=Lib.hid hml2;clear hml2;by_cases hno:no=0
       ·have hnb:(no != 0)=false:=by simpa using hno
        have HE:=Lib.hid (HQ.out.trans (if_neg (by simp [hno])));clear hno;go_wp2_with fail;go_roundw
        case rel=>exact ⟨k+1,by omega,by go_num,HO3.out,by rw [HE.out];exact HP3.out,HB3.out⟩
        case measure=>simp [intOf];omega
       ·have hnb:(no != 0)=true:=by simpa using hno
        have HE:=Lib.hid (HQ.out.trans (if_pos hno));have mixed:Tryz.prog.follows .mixedOrders=true:=by kernel_rfl
        obtain⟨⟨R,hR,hlk,hF⟩,hbw⟩:=HP3.out;have hnow:=hlk.now;have HM:=Lib.hid (rtime_any (hR.keep (Below.refl _ wr).drew) HOkk.out no it.mtime);rw [show R.now=0 from hnow] at HM;have HW:=Lib.hid (And.intro hR (And.intro hlk (And.intro hF hbw)));clear hno hR hlk hF hbw hnow;go_wp2_with fail;refine wp_region_lex 12 mixed (by kernel_rfl) (show PanicOk _ from by repeat (first | exact pk_body | refine pk_then ?_ | refine pk_block ?_ | refine pk_scope ?_)) ?_;simp only [List.take_succ_cons,List.take_zero,List.drop_succ_cons,List.drop_zero]
        repeat still_step
        refine wpStill_nil ?_;go_wp2_with fail;refine HM.out.mono ?_;clear HM;rintro e w7 ⟨rfl,R7,hR7,hS7,hL7⟩;obtain⟨hR,hlk,hF,hbw⟩:=HW.out;have hXd:Below wr.heap.size wr wr.drew:=(Below.refl _ wr).drew;have HO7:=Lib.hid (OI.rf (own_below HO3.out hXd (Nat.le_refl _)) (hR.keep hXd) hS7);have HB7:=Lib.hid ((HB3.out.keep hXd).rf (hR.keep hXd) hS7 rfl);have HP7:=Lib.hid (PlRf.of hbw.drew hlk hF hR7 hS7 hL7);clear hR7 hS7 hL7 hR hlk hF hbw hXd;go_wp2_with fail;go_roundw
        case rel=>exact ⟨k+1,by omega,by go_num,HO7.out,by rw [HE.out];exact HP7.out,HB7.out⟩
        case measure=>simp [intOf];omega
      ·obtain rfl:k=is.length:=by omega
       rw [List.take_of_length_le (by rw [List.length_zip];omega),←HPl.out] at HP3;obtain⟨⟨R,hR,hlk,hF⟩,hbw⟩:=HP3.out;have HX:=Lib.hid (show ∃ R,RfAt wr pf R (plantF ms is)∧(∀ k,R.F pf k→w.heap.size≤k)∧Rf.Like rf0 R∧Below w.heap.size w wr from ⟨R,hR,hF,hlk,hbw⟩);clear hR hlk hF hbw;go_wp2_with fail;go_ret;obtain⟨R,h1,h2,h3,h4⟩:=HX.out;exact⟨pf,R,rfl,h1,h2,h3,h4⟩
end
end Go.Proofs.YtihdbncoijhihaaGreatDoor
