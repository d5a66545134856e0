import Derived.Test.YtbndfmkgamdgeaaGreatDoorSO1
import Derived.Test.YtbndfmkgamdgeaaGreatDoorSO2
import Derived.Test.YtbndfmkgamdgeaaGreatDoorSO4
import Derived.Test.YtbndfmkgamdgeaaGreatDoorSO5
import Derived.Test.YtbndfmkgamdgeaaGreatDoorSO6
import Derived.Test.YtbndfmkgamdgeaaGreatDoorSO7
import Derived.Test.YtbndfmkgamdgeaaGreatDoorSO8
import Derived.Test.YtbndfmkgamdgeaaGreatDoorSO9
import Derived.Test.YtbndfmkgamdgeaaGreatDoorSO10
import Derived.Test.YtbndfmkgamdgeaaGreatDoorSO11
import Derived.Test.YtbndfmkgamdgeaaGreatDoorSO12
import Derived.Test.YtbndfmkgamdgeaaGreatDoorSO13
import Derived.Test.YtbndfmkgamdgeaaGreatDoorSO17
import Derived.Test.YtbndfmkgamdgeaaGreatDoorSO20
set_option linter.unusedVariables false
set_option linter.unusedSimpArgs false
set_option maxRecDepth 100000
set_option maxHeartbeats 16000000
namespace Go.Proofs.YtbndfmkgamdgeaaGreatDoor
section
open Go.RowKit
section
variable {w w':World} {pw:Nat} {R:Rp} {S:Fs}
theorem root_new {S:Fs} {N:Nat} (over b n:Int):(S.addRoot over b n).root ((S.ds.length:Int)+1)=S.last+1:=by
 unfold Fs.root Fs.addRoot;simp;omega
theorem ds_new (S:Fs) (over b n:Int):(S.addRoot over b n).ds.length=S.ds.length+1:=by unfold Fs.addRoot;simp
theorem wmount_any (h:WdAt w pw R S) {N:Nat} (hk:FsOk S N) (hN:N≤1000000) (k b n:Int) :
  Calls Tryz.prog 95 #[.pointer (some ⟨pw,0,none⟩),.int .i64 k,.int .i64 b,.int .i64 n] w fun e w'=>e=.returned (.tuple #[.int .i64 (S.mount k b n).2.1,.int .i64 (S.mount k b n).2.2])∧∃ R',WdAt w' pw R' (S.mount k b n).1∧Stp (R.F pw) (R'.F pw) w w':=by
 have HW0:=Lib.hid h;have HNo:=Lib.hid (wnone_any h hk.d1);obtain⟨pc,-,pz⟩:=h.blk.facts
 cases hg:S.get k with
 | none=>
  have HM:=Lib.hid (show S.mount k b n=(S,0,5) by unfold Fs.mount;rw [hg]);have HG:=Lib.hid (wget_no h hg);unfold An.v an0 at HG;clear h hk hg;go_enter Tryz.func95,Tryz.ntmps95;go_wp2_with fail;refine HNo.out.mono ?_;rintro e w1 ⟨rfl,rfl⟩;go_wp2_with fail;refine HG.out.mono ?_;rintro e w1 ⟨rfl,hb1⟩;go_wp2_with fail;go_ret2;rw [HM.out];exact⟨rfl,R,HW0.out.keep (balloc hb1 _),Stp.of_below (balloc hb1 _)⟩
 | some a=>
  obtain⟨hao,hno,hk1,-⟩:=hk.get hg;obtain⟨ea,el,ec,-,hgc⟩:=wget_yes h hg;have HG:=Lib.hid hgc;unfold An.v at HG;by_cases hkd:a.kind=1
  ·have q1:(a.kind == 1)=true:=by simpa using hkd
   have q2:(a.kind != 1)=false:=by simpa using hkd
   have HOv:=Lib.hid (fun w1 (hb1:Below w.heap.size w w1)=>wover_any (h.keep hb1) hk.d1 k);have HRt:=Lib.hid (fun w1 (hb1:Below w.heap.size w w1)=>wroot_any (h.keep hb1) hk.d1 a.dev);have HMo:=Lib.hid (fun (hx:S.over k≠k∨S.root a.dev=k)=>show S.mount k b n=(S,0,16) by unfold Fs.mount;rw [hg];simp only;rw [if_neg (by simpa using hkd),if_pos hx]);have HMn:=Lib.hid (fun (hx:¬ (S.over k≠k∨S.root a.dev=k)) (hy:8≤S.ds.length∨limB b n=false)=>show S.mount k b n=(S,0,3) by unfold Fs.mount;rw [hg];simp only;rw [if_neg (by simpa using hkd),if_neg hx,if_pos hy]);have HMy:=Lib.hid (fun (hx:¬ (S.over k≠k∨S.root a.dev=k)) (hy:¬ (8≤S.ds.length∨limB b n=false))=>show S.mount k b n=(S.addRoot k b n,S.last+1,0) by unfold Fs.mount;rw [hg];simp only;rw [if_neg (by simpa using hkd),if_neg hx,if_neg hy]);have HK:=Lib.hid hk;clear h hg hkd hao hno hgc;generalize S.over k=ov at HOv HMo HMn HMy;generalize S.root a.dev=rt at HRt HMo HMn HMy;obtain⟨g,cap,hdv,-,-,-,-,-,-⟩:=HW0.out.devF hk.d1;rw [hdv] at pc;clear hk hdv;by_cases h1:ov=k
   ·by_cases h2:rt=k
    ·have HM:=Lib.hid (HMo.out (.inr h2));have q3:(ov != k)=false:=by simpa using h1
     have q4:(rt == k)=true:=by simpa using h2
     clear h1 h2;go_enter Tryz.func95,Tryz.ntmps95;go_wp2_with fail;refine HNo.out.mono ?_;rintro e w1 ⟨rfl,rfl⟩;go_wp2_with fail;refine HG.out.mono ?_;rintro e w1 ⟨rfl,hb1⟩;have hb2:=balloc hb1 (.cells #[.int .i64 a.no,.int .i64 a.dev,.int .i64 a.kind,.int .i64 a.mode,.int .i64 a.uid,.int .i64 a.gid,.int .i64 a.mtime,.int .i64 a.ctime,.int .i64 a.links,.int .i64 a.up,.string a.data,.slice ea el ec] 163);have B1:=Blk.new w1 #[.int .i64 a.no,.int .i64 a.dev,.int .i64 a.kind,.int .i64 a.mode,.int .i64 a.uid,.int .i64 a.gid,.int .i64 a.mtime,.int .i64 a.ctime,.int .i64 a.links,.int .i64 a.up,.string a.data,.slice ea el ec] 163;go_wp2_with fail;refine (HOv.out _ hb2).mono ?_;rintro e w2 ⟨rfl,hb3⟩;obtain⟨bc,-,-⟩:=(B1.keep hb3).facts;have hb4:=bnext hb2 hb3;go_wp2_with fail;refine (HRt.out _ hb4).mono ?_;rintro e w3 ⟨rfl,rfl⟩;go_wp2_with fail;go_ret2;rw [HM.out];exact⟨rfl,R,HW0.out.keep hb4,Stp.of_below hb4⟩
    ·have hx:¬ (ov≠k∨rt=k):=by rintro (h | h);exact h h1;exact h2 h
     have q3:(ov != k)=false:=by simpa using h1
     have q4:(rt == k)=false:=by simpa using h2
     have HMn:=Lib.hid (HMn.out hx);have HMy:=Lib.hid (HMy.out hx);clear h1 h2 hx;go_enter Tryz.func95,Tryz.ntmps95;go_wp2_with fail;refine HNo.out.mono ?_;rintro e w1 ⟨rfl,rfl⟩;go_wp2_with fail;refine HG.out.mono ?_;rintro e w1 ⟨rfl,hb1⟩;have hb2:=balloc hb1 (.cells #[.int .i64 a.no,.int .i64 a.dev,.int .i64 a.kind,.int .i64 a.mode,.int .i64 a.uid,.int .i64 a.gid,.int .i64 a.mtime,.int .i64 a.ctime,.int .i64 a.links,.int .i64 a.up,.string a.data,.slice ea el ec] 163);have B1:=Blk.new w1 #[.int .i64 a.no,.int .i64 a.dev,.int .i64 a.kind,.int .i64 a.mode,.int .i64 a.uid,.int .i64 a.gid,.int .i64 a.mtime,.int .i64 a.ctime,.int .i64 a.links,.int .i64 a.up,.string a.data,.slice ea el ec] 163;go_wp2_with fail;refine (HOv.out _ hb2).mono ?_;rintro e w2 ⟨rfl,hb3⟩;obtain⟨bc,-,-⟩:=(B1.keep hb3).facts;have hb4:=bnext hb2 hb3;go_wp2_with fail;refine (HRt.out _ hb4).mono ?_;rintro e w3 ⟨rfl,rfl⟩;have HB4:=Lib.hid hb4;have pc1:w2.cell? ⟨pw,1,none⟩=_:=(hb4.cell (p:=⟨pw,1,none⟩) pz).trans (pc 1);have HW2:=Lib.hid (HW0.out.keep hb4);clear pc B1 bc hb1 hb2 hb3 hb4;by_cases h8:8≤S.ds.length
     ·have HM:=Lib.hid (HMn.out (.inl h8));have h8':(8:Int)≤(S.ds.length:Int):=by omega
      generalize S.ds.length=m at pc1 h8';clear h8;go_wp2_with fail;go_ret2;rw [HM.out];exact⟨rfl,R,HW2.out,Stp.of_below HB4.out⟩
     ·have h8':¬ (8:Int)≤(S.ds.length:Int):=by omega
      by_cases hlim:limB b n=true
      ·have HM:=Lib.hid (HMy.out (by rintro (h | h);exact h8 h;rw [hlim] at h;cases h));have HAd:=Lib.hid (wadd_any HW2.out HK.out.nums HK.out.l0 (by have:=HK.out.lN;omega) (by omega) k b n hlim);have HRn:=Lib.hid (root_new (S:=S) (N:=0) k b n);have HDn:=Lib.hid (ds_new S k b n);have HDp:=Lib.hid (show 0<(S.addRoot k b n).ds.length by rw [ds_new];omega);generalize S.addRoot k b n=S' at HM HAd HRn HDn HDp;generalize S.ds.length=m at pc1 h8' HRn HDn;clear h8;go_wp2_with fail;refine HAd.out.mono ?_;rintro e w4 ⟨rfl,R',hR1,hR2⟩;have HR:=Lib.hid (And.intro hR1 ((Stp.of_below HB4.out).trans hR2));have hrt:=wroot_any hR1 HDp.out ((m:Int)+1);rw [HRn.out] at hrt;have HRT:=Lib.hid hrt;obtain⟨g',cap',hdv',-,-,-,-,-,-⟩:=hR1.devF HDp.out;obtain⟨rc,-,-⟩:=hR1.blk.facts;rw [hdv',HDn.out] at rc;clear hR1 hR2 hrt hdv';go_wp2_with fail;refine HRT.out.mono ?_;rintro e w5 ⟨rfl,rfl⟩;go_wp2_with fail;go_ret2;rw [HM.out];exact⟨rfl,R',HR.out.1,HR.out.2⟩
      ·have hlim':limB b n=false:=by simpa using hlim
       have HM:=Lib.hid (HMn.out (.inr hlim'));have HAd:=Lib.hid (wadd_no k b n hlim' w2 pw);generalize S.ds.length=m at pc1 h8';clear h8 hlim hlim';go_wp2_with fail;refine HAd.out.mono ?_;rintro e w4 ⟨rfl,hb5⟩;have HB5:=Lib.hid hb5;clear hb5;go_wp2_with fail;go_ret2;rw [HM.out];exact⟨rfl,R,HW2.out.keep HB5.out,Stp.of_below (bnext HB4.out HB5.out)⟩
   ·have HM:=Lib.hid (HMo.out (.inl h1));have q3:(ov != k)=true:=by simpa using h1
    clear h1;go_enter Tryz.func95,Tryz.ntmps95;go_wp2_with fail;refine HNo.out.mono ?_;rintro e w1 ⟨rfl,rfl⟩;go_wp2_with fail;refine HG.out.mono ?_;rintro e w1 ⟨rfl,hb1⟩;have hb2:=balloc hb1 (.cells #[.int .i64 a.no,.int .i64 a.dev,.int .i64 a.kind,.int .i64 a.mode,.int .i64 a.uid,.int .i64 a.gid,.int .i64 a.mtime,.int .i64 a.ctime,.int .i64 a.links,.int .i64 a.up,.string a.data,.slice ea el ec] 163);go_wp2_with fail;refine (HOv.out _ hb2).mono ?_;rintro e w2 ⟨rfl,hb3⟩;have hb4:=bnext hb2 hb3;go_wp2_with fail;go_ret2;rw [HM.out];exact⟨rfl,R,HW0.out.keep hb4,Stp.of_below hb4⟩
  ·have q1:(a.kind != 1)=true:=by simpa using hkd
   have HM:=Lib.hid (show S.mount k b n=(S,0,9) by unfold Fs.mount;rw [hg];simp only;rw [if_pos hkd]);clear h hk hg hkd hao hno hgc;go_enter Tryz.func95,Tryz.ntmps95;go_wp2_with fail;refine HNo.out.mono ?_;rintro e w1 ⟨rfl,rfl⟩;go_wp2_with fail;refine HG.out.mono ?_;rintro e w1 ⟨rfl,hb1⟩;go_wp2_with fail;go_ret2;rw [HM.out];exact⟨rfl,R,HW0.out.keep (balloc hb1 _),Stp.of_below (balloc hb1 _)⟩
theorem wnew_yes (b n:Int) (hlim:limB b n=true) (w:World) :
  Calls Tryz.prog 93 #[.int .i64 b,.int .i64 n] w fun e w'=>∃ pw R,e=.returned (.tuple #[.pointer (some ⟨pw,0,none⟩),.int .i64 0])∧WdAt w' pw R (fs0.addRoot 0 b n)∧Below w.heap.size w w'∧∀ k,R.F pw k→w.heap.size≤k:=by
 have HN:=Lib.hid (new_table w);go_enter Tryz.func93,Tryz.ntmps93;go_wp2_with fail;refine HN.out.mono ?_;rintro e w1 ⟨rfl,hT,hb1⟩;have hb2:=balloc hb1 (.cells #[.pointer (some ⟨w.heap.size+1,0,none⟩),.slice none 0 0] 213);have hW:WdAt (w1.alloc (.cells #[.pointer (some ⟨w.heap.size+1,0,none⟩),.slice none 0 0] 213)) w1.heap.size ⟨w.heap.size+1,w.heap.size,.slice none 0 0,[],0⟩ fs0:=
  ⟨Blk.new _ _ _,hT.keep ((Below.refl _ _).alloc (Nat.le_refl _) _),World.ownsRow_nil _ _ _ _,rfl,fun g hg=>by cases hg⟩
 have hF:∀ k,Rp.F ⟨w.heap.size+1,w.heap.size,.slice none 0 0,[],0⟩ w1.heap.size k→w.heap.size≤k:=by
  rintro k (hk | hk | hk | hk)
  ·have:=hb1.size;omega
  ·simp only at hk;omega
  ·simp only at hk;omega
  ·cases hk
 have HAd:=Lib.hid (wadd_any hW ⟨List.Pairwise.nil,fun x hx=>by cases hx⟩ (by decide) (by decide) (by decide) 0 b n hlim);have HF:=Lib.hid hF;have HB2:=Lib.hid hb2;clear hT hb1 hb2 hW hF;go_wp2_with fail;refine HAd.out.mono ?_;rintro e w4 ⟨rfl,R',hR1,hR2⟩;have HR:=Lib.hid (And.intro hR1 hR2);clear hR1 hR2;go_wp2_with fail;go_ret2;exact⟨_,R',rfl,HR.out.1,HB2.out.trans (HR.out.2.below HF.out HB2.out.size),HR.out.2.above HF.out HB2.out.size⟩
end
end
section
open Go.RowKit
section
variable {w w':World} {pf:Nat} {R:Rf} {S:Fs}
end
end
section
open Go.RowKit
section
variable {w w':World} {pf:Nat} {R:Rf} {S:Fs}
end
end
section
open Go.RowKit
def mtC (m:Mt):List Value:=[.string m.path,.int .i64 m.b,.int .i64 m.n]
theorem mtC_len (m:Mt):(mtC m).length=3:=rfl
def mtR (cs:List Value) (m:Mt):Prop:=cs=mtC m
def itC (x:It):List Value:=[.string x.path,.int .i64 x.kind,.int .i64 x.mode,.int .i64 x.uid,.int .i64 x.gid,.int .i64 x.mtime,.string x.data]
theorem itC_len (x:It):(itC x).length=7:=rfl
def itR (cs:List Value) (x:It):Prop:=cs=itC x
theorem SliceAt.keep {α:Type} {w w':World} {sz n c:Nat} {Rl:List Value→α→Prop} {a:Option Addr} {xs:List α} (h:SliceAt w sz Rl a n c xs) (hb:Below w.heap.size w w'):SliceAt w' sz Rl a n c xs:=h.below hb (Nat.le_refl _)
structure SdAt (w:World) (ma:Option Addr) (mn mc:Nat) (ia:Option Addr) (il ic:Nat) (ms:List Mt) (is:List It):Prop where
 m:SliceAt w 3 mtR ma mn mc ms
 i:SliceAt w 7 itR ia il ic is
theorem SdAt.keep {w w':World} {ma:Option Addr} {mn mc:Nat} {ia:Option Addr} {il ic:Nat} {ms:List Mt} {is:List It} (h:SdAt w ma mn mc ia il ic ms is) (hb:Below w.heap.size w w'):SdAt w' ma mn mc ia il ic ms is:=⟨h.m.keep hb,h.i.keep hb⟩
theorem mt_cells {w:World} {b off n c:Nat} {ms:List Mt} (h:SliceAt w 3 mtR (some ⟨b,off,none⟩) n c ms) (k:Nat) (hk:k<ms.length) :
  w.cell? ⟨b,off+k*3,none⟩=some (.string ms[k].path)∧w.cell? ⟨b,off+k*3+1,none⟩=some (.int .i64 ms[k].b)∧w.cell? ⟨b,off+k*3+2,none⟩=some (.int .i64 ms[k].n):=by
 obtain⟨hl,-,-,h0 | ⟨b',off',he,hb,hel⟩⟩:=h
 ·omega
 ·injection he with he;injection he with e1 e2;subst e1 e2;obtain⟨cs,h1,h2,h3⟩:=hel k hk;unfold mtR at h2;subst h2;exact⟨h3 0 (by rw [mtC_len];omega),h3 1 (by rw [mtC_len];omega),h3 2 (by rw [mtC_len];omega)⟩
theorem it_cells {w:World} {b off n c:Nat} {is:List It} (h:SliceAt w 7 itR (some ⟨b,off,none⟩) n c is) (k:Nat) (hk:k<is.length) :
  w.cell? ⟨b,off+k*7,none⟩=some (.string is[k].path)∧w.cell? ⟨b,off+k*7+1,none⟩=some (.int .i64 is[k].kind)∧w.cell? ⟨b,off+k*7+2,none⟩=some (.int .i64 is[k].mode)∧
  w.cell? ⟨b,off+k*7+3,none⟩=some (.int .i64 is[k].uid)∧w.cell? ⟨b,off+k*7+4,none⟩=some (.int .i64 is[k].gid)∧w.cell? ⟨b,off+k*7+5,none⟩=some (.int .i64 is[k].mtime)∧w.cell? ⟨b,off+k*7+6,none⟩=some (.string is[k].data):=by
 obtain⟨hl,-,-,h0 | ⟨b',off',he,hb,hel⟩⟩:=h
 ·omega
 ·injection he with he;injection he with e1 e2;subst e1 e2;obtain⟨cs,h1,h2,h3⟩:=hel k hk;unfold itR at h2;subst h2;exact⟨h3 0 (by rw [itC_len];omega),h3 1 (by rw [itC_len];omega),h3 2 (by rw [itC_len];omega),h3 3 (by rw [itC_len];omega),h3 4 (by rw [itC_len];omega),h3 5 (by rw [itC_len];omega),h3 6 (by rw [itC_len];omega)⟩
theorem slice_some {α:Type} {w:World} {sz n c:Nat} {Rl:List Value→α→Prop} {a:Option Addr} {xs:List α} (h:SliceAt w sz Rl a n c xs) (hn:0<n):∃ b off,a=some ⟨b,off,none⟩∧b<w.heap.size:=by
 obtain⟨-,-,-,h0 | ⟨b,off,he,hb,-⟩⟩:=h
 ·omega
 ·exact ⟨b,off,he,hb⟩
theorem limitsF_drop {ms:List Mt} {k:Nat} (hk:k<ms.length):limitsF (ms.drop k)=if ms[k].path=topB∧limB ms[k].b ms[k].n=true then (ms[k].b,ms[k].n) else limitsF (ms.drop (k+1)):=by
 rw [List.drop_eq_getElem_cons hk,limitsF]
theorem slimits_any (w:World) {ma:Option Addr} {mn mc:Nat} {ia:Option Addr} {il ic:Nat} {ms:List Mt} {is:List It} (h:SdAt w ma mn mc ia il ic ms is) :
  Calls Tryz.prog 47 #[.agg #[.slice ma mn mc,.slice ia il ic]] w fun e w'=>e=.returned (.tuple #[.int .i64 (limitsF ms).1,.int .i64 (limitsF ms).2])∧Below w.heap.size w w':=by
 have HS:=Lib.hid h;have hln:=h.m.1;have hmc:=h.m.2.1;have hmx:=h.m.2.2.1;clear h;go_enter Tryz.func47,Tryz.ntmps47;go_wp2_with fail
 go_loopw [9] (fun t9 wr=>∃ k:Nat,k≤ms.length∧t9=.int .i64 k∧limitsF ms=limitsF (ms.drop k)∧Below w.heap.size w wr) (fun t9 _=>ms.length - (intOf t9).toNat)
 case atStart=>exact ⟨0,Nat.zero_le _,rfl,rfl,balloc (Below.refl _ _) _⟩
 case round=>
  obtain⟨k,hk,rfl,hE,hb⟩:=hrel;have HE:=Lib.hid hE;have HB:=Lib.hid hb;clear hE;by_cases hlt:k<ms.length
  ·obtain ⟨b,off,rfl,hbl⟩:=slice_some HS.out.m (by omega);obtain⟨c0,c1,c2⟩:=mt_cells (HS.out.m.below hb (Nat.le_refl _)) k hlt;have HQ:=Lib.hid (limitsF_drop hlt);generalize ms[k]=m at c0 c1 c2 HQ;obtain⟨mp,mb,mk⟩:=m;have hX:=Blk.new wr #[.string mp,.int .i64 mb,.int .i64 mk] 126;have hbX:=balloc hb (.cells #[.string mp,.int .i64 mb,.int .i64 mk] 126);clear hb;go_upto_region 4 with fail;generalize wr.alloc (.cells #[.string mp,.int .i64 mb,.int .i64 mk] 126)=X at hX hbX ⊢;have HX:=Lib.hid hX;have HBX:=Lib.hid hbX;obtain⟨xc,xf,xz⟩:=hX.facts;clear hX hbX c0 c1 c2;by_cases h1:mp=topB
   ·have h1':mp.toList=[47]:=by rw [h1,ba_list];rfl
    have HP:=Lib.hid h1;clear h1;by_cases h2:mb<1
    ·skip
     have HN:=Lib.hid (HE.out.trans (HQ.out.trans (if_neg (fun h=>by have h9:1≤mb:=(lim_of h.2).1;omega))));go_wp2_with fail;go_roundw
     case rel=>exact ⟨k+1,by omega,by go_num,HN.out,HBX.out⟩
     case measure=>simp [intOf];omega
    by_cases h3:1073741824<mb
    ·skip
     have HN:=Lib.hid (HE.out.trans (HQ.out.trans (if_neg (fun h=>by have h9:mb≤1073741824:=(lim_of h.2).2.1;omega))));go_wp2_with fail;go_roundw
     case rel=>exact ⟨k+1,by omega,by go_num,HN.out,HBX.out⟩
     case measure=>simp [intOf];omega
    by_cases h4:mk<1
    ·skip
     have HN:=Lib.hid (HE.out.trans (HQ.out.trans (if_neg (fun h=>by have h9:1≤mk:=(lim_of h.2).2.2.1;omega))));go_wp2_with fail;go_roundw
     case rel=>exact ⟨k+1,by omega,by go_num,HN.out,HBX.out⟩
     case measure=>simp [intOf];omega
    by_cases h5:65536<mk
    ·skip
     have HN:=Lib.hid (HE.out.trans (HQ.out.trans (if_neg (fun h=>by have h9:mk≤65536:=(lim_of h.2).2.2.2;omega))));go_wp2_with fail;go_roundw
     case rel=>exact ⟨k+1,by omega,by go_num,HN.out,HBX.out⟩
     case measure=>simp [intOf];omega
    have HN:=Lib.hid (HE.out.trans (HQ.out.trans (if_pos ⟨HP.out,lim_mk mb mk (by omega) (by omega) (by omega) (by omega)⟩)));have mixed:Tryz.prog.follows .mixedOrders=true:=by kernel_rfl
    go_wp2_with fail
    go_region
    all_goals
     go_wp2_with fail;go_ret2;rw [HN.out];exact⟨rfl,HBX.out.drew⟩
   ·have h1':(mp.toList == [47])=false:=by
     rw [ba_list];simp only [beq_eq_false_iff_ne,ne_eq];exact fun e=>h1 (ba_eq e)
    have HN:=Lib.hid (HE.out.trans (HQ.out.trans (if_neg (fun h=>h1 h.1))));go_wp2_with fail;go_roundw
    case rel=>exact ⟨k+1,by omega,by go_num,HN.out,HBX.out⟩
    case measure=>simp [intOf];omega
  ·obtain rfl:k=ms.length:=by omega
   have HE2:=Lib.hid (show limitsF ms=(65536,65536) by rw [HE.out,List.drop_length];rfl);clear hb;go_wp2_with fail;go_ret2;rw [HE2.out];exact⟨rfl,HB.out⟩
end
section
open Go.RowKit
def rwC (r:Rw):List Value:=[.string r.path,.int .i64 r.kind,.int .i64 r.mode,.int .i64 r.uid,.int .i64 r.gid,.int .i64 r.mtime,.int .i64 r.ctime,.int .i64 r.dev,.int .i64 r.first,.string r.data]
def rwQ (cs:List Value) (r:Rw):Prop:=cs=rwC r
theorem own_apart {w:World} {base base':Nat} {e e':TypeId} {sz sz' n n':Nat} {v v':Value} {xs xs':List Value} (h:w.ownsRow base e sz v n xs) (h':w.ownsRow base' e' sz' v' n' xs') (he:e≠e') {k:Nat} (hk:v.ownBlock=some k):v'.ownBlock≠some k:=fun hk'=>by
 obtain⟨-,c1,h1⟩:=own_obj1 h hk;obtain⟨-,c2,h2⟩:=own_obj1 h' hk';rw [h1] at h2;injection h2 with h2;injection h2 with e1 e2 e3;exact he e2
theorem own_blk {w w':World} {base:Nat} {e:TypeId} {sz n:Nat} {v:Value} {xs:List Value} (h:w.ownsRow base e sz v n xs) {T:TypeId} (he:e≠T) {B:Nat} {vs:Array Value} (hb:Blk w B vs T) (hm:Mod (fun k=>v.ownBlock=some k) w w'):Blk w' B vs T:=
 hb.mod hm (fun hk=>by
  obtain⟨-,c1,h1⟩:=own_obj1 h hk;unfold Blk at hb;rw [h1] at hb;injection hb with hb;injection hb with e1 e2 e3;exact he e2)
end
section
open Go.RowKit Go.Shelf
attribute [local go_sem] Oper.semAt_some
theorem EntsAt.kt {w w':World} {T:Nat→Prop} {a:Option Addr} {n c:Nat} {es:List En} (h:EntsAt w a n c es) (ht:KT T w w') (hT:∀ b off,a=some ⟨b,off,none⟩→T b):EntsAt w' a n c es:=by
 refine ⟨⟨h.sl.1,h.sl.2.1,h.sl.2.2.1,h.sl.2.2.2.imp id ?_⟩,fun p hp=>?_⟩
 ·rintro ⟨b,off,rfl,hb,hel⟩;refine ⟨b,off,rfl,Nat.lt_of_lt_of_le hb ht.1,fun i hi=>?_⟩;obtain⟨cs,h1,h2,h3⟩:=hel i hi;refine ⟨cs,h1,h2,fun j hj=>?_⟩;rw [←h3 j hj];simp only [World.cell?,ht.2 b (hT b off rfl)]
 ·obtain ⟨b,off,cur,rfl,hblk⟩:=h.blk p hp;exact⟨b,off,cur,rfl,(ht.2 b (hT b off hp)).trans hblk⟩
theorem take_prefix (es:List En) (k:Nat) (hk:k<es.length):(es.take k ++ [es[k]]) <+: es:=by
 rw [←List.take_succ_eq_append_getElem hk];exact List.take_prefix _ _
theorem entsall_stops (n:Nat) (hn:1≤n) (Bs:Nat) {ea:Option Addr} {el ec:Nat} {es:List En} (w:World) (hs:Blk w Bs #[.slice ea el ec] 88) (he:EntsAt w ea el ec es) :
  SeqU (fun k=>k=Bs∨∃ off,ea=some ⟨k,off,none⟩) Fence.wide n Tryz.prog 177 #[.pointer (some ⟨Bs,0,none⟩)] (fun x:En=>#[.string x.name,.int .i64 x.no])
   (fun xs=>xs=es) (fun pre=>∃ m,pre=es.take m) (fun pre x=>(pre ++ [x]) <+: es) w:=fun L J Jx W hW hWs hJ hJx hY h0=>by
 have hln:=he.len;subst hln;have hc1:=he.sl.2.1;have hc2:=he.sl.2.2.1;have Hs:=Lib.hid (show Blk W Bs #[.slice ea es.length ec] 88 from (hW.2 Bs (.inl rfl)).trans hs);have HE:=Lib.hid (he.kt hW (fun b off h=>.inr ⟨off,h⟩));have HY:=Lib.hid hY;have HJ:=Lib.hid hJ;clear hs hW hWs hY he hJ hJx;obtain⟨xc,xf,xz⟩:=Hs.out.facts;refine callsIn_of_wp Tryz.func177 rfl trivial ?_ rfl;simp only [Tryz.ntmps177,List.size_toArray,List.length_cons,List.length_nil,Nat.reduceAdd,Nat.reduceSub,Array.replicate_succ,Array.replicate_zero,List.push_toArray,List.append_toArray,List.nil_append,List.cons_append];gi_wp2
 gi_loopw [7] (fun t7 wr=>∃ k:Nat,k≤es.length∧t7=.int .i64 k∧J (es.take k) wr∧Blk wr Bs #[.slice ea es.length ec] 88∧EntsAt wr ea es.length ec es∧W.heap.size≤wr.heap.size) (fun t7 _=>es.length - (intOf t7).toNat)
 case atStart=>exact ⟨0,Nat.zero_le _,rfl,h0,Hs.out,HE.out,Nat.le_refl _⟩
 case round=>
  obtain⟨k,hk,rfl,hJp,hbs,hen,hsz⟩:=hrel;clear xc xf xz h0;by_cases hkl:k<es.length
  ·obtain ⟨b,off,rfl,hbl⟩:=hen.some_of (by omega);obtain⟨c1,c2⟩:=hen.cell k hkl;have hJ1:=HJ.out _ _ _ hJp (Turn.alloc wr (.cells #[.string es[k].name,.int .i64 es[k].no] 92));have hX:=Blk.new wr #[.string es[k].name,.int .i64 es[k].no] 92;obtain⟨fn,tmps,assign,body,hy,hR⟩:=HY.out _ es[k] _ hJ1 (take_prefix es k hkl);have HT:=Lib.hid (List.take_succ_eq_append_getElem hkl);have HP:=Lib.hid (take_prefix es k hkl);have HB1:=Lib.hid (hbs.old (.cells #[.string es[k].name,.int .i64 es[k].no] 92));have HE1:=Lib.hid (hen.keep (((Below.refl _ wr).alloc (Nat.le_refl _) (.cells #[.string es[k].name,.int .i64 es[k].no] 92))));have HR:=Lib.hid hR;have hz1:W.heap.size≤(wr.alloc (.cells #[.string es[k].name,.int .i64 es[k].no] 92)).heap.size:=by rw [World.size_alloc];omega
   obtain⟨xc,xf,xz⟩:=hX.facts;clear hJp hbs hen hR hX hJ1;generalize es[k]=x at c1 c2 hy HR HT HP HB1 HE1 hz1 xc xf xz;gi_wp2;refine HR.out.mono ?_;rintro e W3 (⟨rfl,hJ3,hk3⟩|⟨rfl,hJx3⟩)
   ·have HJ3:=Lib.hid hJ3;have HB3:=Lib.hid (show Blk W3 Bs #[.slice (some ⟨b,off,none⟩) es.length ec] 88 from (hk3.2 Bs (.inl rfl)).trans HB1.out);have HE3:=Lib.hid (HE1.out.kt hk3 (fun b' off' h=>.inr ⟨off',h⟩));have HS3:=Lib.hid (Nat.le_trans hz1 hk3.1);clear hJ3 hk3 hy xc xf xz c1 c2;gi_wp2;go_roundw
    case rel=>exact ⟨k+1,by omega,by go_num,by rw [HT.out];exact HJ3.out,HB3.out,HE3.out,HS3.out⟩
    case measure=>simp [intOf];omega
   ·have HJx:=Lib.hid hJx3;clear hJx3 hy;gi_wp2;exact bodyPost_ret (results_none rfl _ _ _) rfl ⟨⟨_,rfl⟩,.inr ⟨_,prefix_take HP.out,HJx.out⟩⟩
  ·obtain rfl:k=es.length:=by omega
   rw [List.take_length] at hJp;have HJp:=Lib.hid hJp;clear hJp hbs hen;gi_wp2
   go_end0
   exact⟨⟨_,rfl⟩,.inl ⟨_,rfl,HJp.out⟩⟩
end
section
open Go.RowKit
def FirstOf (l:List (Int×Value×Nat)) (nos:List Int):Prop:=KeysOnce l∧∀ k,mapFind l k=if k∈nos then some (.int .i64 (nos.idxOf k:Nat)) else none
theorem own_less {α:Type} {enc:α→List Value} {w:World} {base:Nat} {e:TypeId} {sz g cap:Nat} (hpos:0<sz) (hl:∀ x,(enc x).length=sz) {xs:List α} {x:α}
  (h:w.ownsRow base e sz (.slice (some ⟨g,0,none⟩) (xs.length+1) cap) (xs.length+1) ((xs ++ [x]).flatMap enc)):w.ownsRow base e sz (.slice (some ⟨g,0,none⟩) xs.length cap) xs.length (xs.flatMap enc):=by
 refine ⟨by rw [flat_len hl],.inr ?_⟩;rcases h.2 with ⟨hv,-⟩|⟨g',cap',cur,hv,hb,hg,h1,h2,h3,h4⟩
 ·cases hv
 ·injection hv with e1 e2 e3;injection e1 with e1;injection e1 with e1;subst e1 e3;refine ⟨g,cap,cur,rfl,hb,hg,by omega,h2,h3,?_⟩;have h5:(cur.toList.take ((xs.length+1)*sz)).take (xs.length*sz)=((xs ++ [x]).flatMap enc).take (xs.length*sz):=by rw [h4]
  rw [List.take_take,Nat.min_eq_left (by rw [Nat.succ_mul];omega),List.flatMap_append,List.take_append_of_le_length (by rw [flat_len hl];exact Nat.le_refl _)] at h5;rw [h5,List.take_of_length_le (by rw [flat_len hl];exact Nat.le_refl _)]
theorem own_box {w w':World} {base:Nat} {e:TypeId} {sz n:Nat} {v:Value} {xs:List Value} (h:w.ownsRow base e sz v n xs) {T:TypeId} (he:e≠T) {B:Nat} {vs:Array Value} (hB:Blk w B vs T) (hm:Mod (fun k=>k=B) w w'):w'.ownsRow base e sz v n xs:=
 own_mod h hm (fun k hk hb=>by
  obtain⟨-,cur,hc⟩:=own_obj1 h hb;subst hk;unfold Blk at hB;rw [hB] at hc;injection hc with hc;injection hc with e1 e2 e3;exact he e2.symm)
section
variable {B:Nat} {w w':World} {m Bt g cap:Nat} {vo:Value} {out:List Rw} {nos:List Int} {stk:List En}
end
end
section
open Go.RowKit
section
variable {w w':World} {pf:Nat} {R:Rf} {S:Fs}
end
end
section
open Go.RowKit
section
variable {w w':World} {pf:Nat} {R:Rf} {S:Fs}
end
end
section
open Go.RowKit
section
variable {w w':World} {pf:Nat} {R:Rf} {S:Fs}
end
end
section
open Go.Sort
section
variable {α:Type} [Inhabited α] {lt:α→α→Bool}
def mrg (lt:α→α→Bool):List α→List α→List α
 | [],B=>B
 | x :: A,[]=>x :: A
 | x :: A,y :: B=>if lt y x then y :: mrg lt (x :: A) B else x :: mrg lt A (y :: B)
termination_by A B=>A.length+B.length
omit [Inhabited α] in
theorem mrg_nil (A:List α):mrg lt A []=A:=by cases A <;> rw [mrg]
omit [Inhabited α] in
theorem nil_mrg (B:List α):mrg lt [] B=B:=by rw [mrg]
omit [Inhabited α] in
theorem mrg_cons (x y:α) (A B:List α):mrg lt (x :: A) (y :: B)=if lt y x then y :: mrg lt (x :: A) B else x :: mrg lt A (y :: B):=by rw [mrg]
omit [Inhabited α] in
theorem mrg_len (lt:α→α→Bool):∀ (A B:List α),(mrg lt A B).length=A.length+B.length
 | [],B=>by rw [nil_mrg];simp
 | x :: A,[]=>by rw [mrg_nil];simp
 | x :: A,y :: B=>by
  rw [mrg_cons]
  split
  ·rw [List.length_cons,mrg_len lt (x :: A) B];simp;omega
  ·rw [List.length_cons,mrg_len lt A (y :: B)];simp;omega
termination_by A B=>A.length+B.length
def SrtL (lt:α→α→Bool) (L:List α):Prop:=L.Pairwise fun x y=>lt y x=false
def isort (lt:α→α→Bool) (L:List α):List α:=L.foldl (fun S x=>mrg lt S [x]) []
omit [Inhabited α] in
theorem isort_snoc (L:List α) (x:α):isort lt (L ++ [x])=mrg lt (isort lt L) [x]:=by unfold isort;rw [List.foldl_append];rfl
omit [Inhabited α] in
theorem isort_one (x:α):isort lt [x]=[x]:=by show mrg lt [] [x]=[x];rw [nil_mrg]
theorem list_snoc_rec {α:Type} {p:List α→Prop} (h0:p []) (h1:∀ L x,p L→p (L ++ [x])) (L:List α):p L:=by
 have:∀ n (L:List α),L.length=n→p L:=by
  intro n
  induction n with
  | zero=>intro L h;rw [List.length_eq_zero_iff.1 h];exact h0
  | succ n ih=>
   intro L h;have hne:L≠[]:=by intro e;rw [e] at h;simp at h
   rw [←List.dropLast_concat_getLast hne];exact h1 _ _ (ih _ (by simp [h]))
 exact this _ L rfl
omit [Inhabited α] in
theorem isort_len (L:List α):(isort lt L).length=L.length:=by
 induction L using list_snoc_rec with
 | h0=>rfl
 | h1 L x ih=>rw [isort_snoc,mrg_len,ih];simp
def Seg (d:Array α) (s:Nat) (L:List α):Prop:=s+L.length≤d.size∧∀ i (h:i<L.length),d[s+i]! = L[i]
def SameOut (a b:Nat) (d d':Array α):Prop:=d'.size=d.size∧∀ i,(i<a∨b≤i)→d'[i]! = d[i]!
def swpR (d:Array α) (a b:Nat):Nat→Array α
 | 0=>d
 | n+1=>swp (swpR d a b n) (a+n) (b+n)
end
end
section
open Go.Sort
structure Ey where
 can:ByteArray
 name:ByteArray
 path:ByteArray
 date:Int
 size:Int
 good:Bool
def ey0:Ey:=⟨ByteArray.empty,ByteArray.empty,ByteArray.empty,0,0,false⟩
instance:Inhabited Ey:=⟨ey0⟩
def eyC (x:Ey):List Value:=[.string x.can,.string x.name,.string x.path,.int .i64 x.date,.int .i64 x.size,.bool x.good]
theorem eyC_len (x:Ey):(eyC x).length=6:=rfl
def cmpI (a b:Int):Int:=if a<b then -1 else if b<a then 1 else 0
def cmpS (a b:ByteArray):Int:=if ltB a b=true then -1 else if ltB b a=true then 1 else 0
def orI (a b:Int):Int:=if a≠0 then a else b
def earF (x y:Ey):Int:=orI (cmpI x.date y.date) (orI (cmpI x.name.size y.name.size) (orI (cmpS x.name y.name) (cmpS x.can y.can)))
def ltE (x y:Ey):Bool:=decide (earF x y<0)
def aheadB (x y:Ey):Bool:=
 if x.date≠y.date then decide (x.date<y.date) else if x.name.size≠y.name.size then decide (x.name.size<y.name.size) else if x.name≠y.name then ltB x.name y.name else ltB x.can y.can
theorem cmpI_lt (a b:Int):decide (cmpI a b<0)=decide (a<b):=by
 unfold cmpI
 split
 ·simp [*]
 ·split
  ·simp;omega
  ·simp;omega
theorem cmpI_eq (a b:Int):cmpI a b=0↔a=b:=by
 unfold cmpI
 split
 ·constructor
  ·intro h;exact absurd h (by decide)
  ·intro h;omega
 ·split
  ·constructor
   ·intro h;exact absurd h (by decide)
   ·intro h;omega
  ·constructor
   ·intro _;omega
   ·intro _;rfl
theorem cmpS_lt (a b:ByteArray):decide (cmpS a b<0)=ltB a b:=by
 unfold cmpS
 cases h:ltB a b with
 | true=>simp
 | false=>
  cases h2:ltB b a with
  | true=>simp
  | false=>simp
theorem cmpS_eq (a b:ByteArray):cmpS a b=0↔a=b:=by
 unfold cmpS
 cases h:ltB a b with
 | true=>
  simp;rintro rfl;exact absurd h (by rw [ltB_irrefl];decide)
 | false=>
  cases h2:ltB b a with
  | true=>
   simp;rintro rfl;exact absurd h2 (by rw [ltB_irrefl];decide)
  | false=>
   simp;exact ltB_total h h2
theorem orI_lt (a b:Int):decide (orI a b<0)=if a≠0 then decide (a<0) else decide (b<0):=by
 unfold orI
 split <;> rfl
theorem ltE_ahead (x y:Ey):ltE x y=aheadB x y:=by
 unfold ltE earF aheadB;rw [orI_lt,cmpI_lt];by_cases h1:x.date=y.date
 ·rw [if_neg (by simpa using (cmpI_eq _ _).2 h1),if_neg (by simpa using h1),orI_lt,cmpI_lt];by_cases h2:x.name.size=y.name.size
  ·rw [if_neg (by simpa using (cmpI_eq _ _).2 (by omega)),if_neg (by simpa using h2),orI_lt,cmpS_lt,cmpS_lt];by_cases h3:x.name=y.name
   ·rw [if_neg (by simpa using (cmpS_eq _ _).2 h3),if_neg (by simpa using h3)]
   ·rw [if_pos (fun h=>h3 ((cmpS_eq _ _).1 h)),if_pos h3]
  ·rw [if_pos (fun h=>h2 (by have:=(cmpI_eq _ _).1 h;omega)),if_pos h2];simp
 ·rw [if_pos (fun h=>h1 ((cmpI_eq _ _).1 h)),if_pos h1]
def lexB {α:Type} (p q:α→α→Bool) (x y:α):Bool:=p x y || (!p y x && q x y)
theorem lex_swo {α:Type} {p q:α→α→Bool} (hp:SWO p) (hq:SWO q):SWO (lexB p q) where
 irrefl x:=by simp [lexB,hp.irrefl,hq.irrefl]
 trans x y z h1 h2:=by
  unfold lexB at *;simp only [Bool.or_eq_true,Bool.and_eq_true,Bool.not_eq_true'] at h1 h2 ⊢;rcases h1 with h1 | ⟨a1,b1⟩
  ·rcases h2 with h2 | ⟨a2,b2⟩
   ·exact .inl (hp.trans _ _ _ h1 h2)
   ·left
    cases h:p x z with
    | true=>rfl
    | false=>rw [hp.ntrans _ _ _ h a2] at h1;cases h1
  ·rcases h2 with h2 | ⟨a2,b2⟩
   ·left
    cases h:p x z with
    | true=>rfl
    | false=>rw [hp.ntrans _ _ _ a1 h] at h2;cases h2
   ·exact .inr ⟨hp.ntrans _ _ _ a2 a1,hq.trans _ _ _ b1 b2⟩
 ntrans x y z h1 h2:=by
  unfold lexB at *;simp only [Bool.or_eq_false_iff,Bool.and_eq_false_iff,Bool.not_eq_false'] at h1 h2 ⊢;obtain⟨a1,b1⟩:=h1;obtain⟨a2,b2⟩:=h2;refine ⟨hp.ntrans _ _ _ a1 a2,?_⟩
  cases h:p z x with
  | true=>exact .inl rfl
  | false=>
   right;rcases b1 with b1 | b1
   ·rw [hp.ntrans _ _ _ a2 h] at b1;cases b1
   ·rcases b2 with b2 | b2
    ·rw [hp.ntrans _ _ _ h a1] at b2;cases b2
    ·exact hq.ntrans _ _ _ b1 b2
theorem int_swo {α:Type} (f:α→Int):SWO (fun x y=>decide (f x<f y)) where
 irrefl x:=by simp
 trans x y z h1 h2:=by simp at *;omega
 ntrans x y z h1 h2:=by simp at *;omega
theorem str_swo {α:Type} (f:α→ByteArray):SWO (fun x y=>ltB (f x) (f y)) where
 irrefl x:=ltB_irrefl _
 trans x y z h1 h2:=ltB_trans h1 h2
 ntrans x y z h1 h2:=by
  cases h:ltB (f x) (f z) with
  | false=>rfl
  | true=>
   cases h3:ltB (f y) (f x) with
   | true=>rw [ltB_trans h3 h] at h2;cases h2
   | false=>
    have e:=ltB_total h1 h3;rw [←e,h] at h2
    cases h2
def ordB:Ey→Ey→Bool:=lexB (fun x y=>decide (x.date<y.date)) (lexB (fun x y=>decide ((x.name.size:Int)<(y.name.size:Int))) (lexB (fun x y=>ltB x.name y.name) (fun x y=>ltB x.can y.can)))
theorem aheadB_ord (x y:Ey):aheadB x y=ordB x y:=by
 unfold aheadB ordB lexB;by_cases h1:x.date=y.date
 ·rw [if_neg (by simpa using h1)];simp only [h1,Int.lt_irrefl,decide_false,Bool.false_or,Bool.not_false,Bool.true_and];by_cases h2:x.name.size=y.name.size
  ·rw [if_neg (by simpa using h2)];simp only [h2,Int.lt_irrefl,decide_false,Bool.false_or,Bool.not_false,Bool.true_and];by_cases h3:x.name=y.name
   ·rw [if_neg (by simpa using h3),h3,ltB_irrefl];rfl
   ·rw [if_pos h3]
    cases h4:ltB x.name y.name with
    | true=>rfl
    | false=>
     cases h5:ltB y.name x.name with
     | true=>rfl
     | false=>exact absurd (ltB_total h4 h5) h3
  ·rw [if_pos h2];by_cases h3:x.name.size<y.name.size
   ·simp [h3]
   ·have h4:y.name.size<x.name.size:=by omega
    simp [h3,h4]
 ·rw [if_pos h1];by_cases h2:x.date<y.date
  ·simp [h2]
  ·have h3:y.date<x.date:=by omega
   simp [h2,h3]
theorem ltE_swo:SWO ltE:=by
 have h:ltE=ordB:=funext fun x=>funext fun y=>(ltE_ahead x y).trans (aheadB_ord x y);rw [h];exact lex_swo (int_swo _) (lex_swo (int_swo _) (lex_swo (str_swo _) (str_swo _)))
def oldB (now age:Int) (y:Ey):Bool:=decide (0≤y.date) && decide (age<now - y.date)
def overL (quota:Int):Int→List Ey→List Ey
 | _,[]=>[]
 | s,y :: l=>if s≤quota then [] else y :: overL quota (s - y.size) l
def sumE (l:List Ey):Int:=l.foldl (fun s y=>s+y.size) 0
def restL (now age:Int) (l:List Ey):List Ey:=l.filter (fun y=>!oldB now age y && decide (0≤y.date)) ++ l.filter (fun y=>!oldB now age y && !decide (0≤y.date))
def pickF (l:List Ey) (now age quota:Int):List Ey:=
 if now<0∨age<0∨quota<0 then [] else (isort ltE l).filter (oldB now age) ++ overL quota (sumE (restL now age (isort ltE l))) (restL now age (isort ltE l))
end
end Go.Proofs.YtbndfmkgamdgeaaGreatDoor
