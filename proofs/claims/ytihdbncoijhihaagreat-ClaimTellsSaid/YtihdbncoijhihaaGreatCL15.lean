import Derived.Test.YtihdbncoijhihaaGreatCL14
import Derived.Test.YtihdbncoijhihaaGreatCL10
set_option linter.unusedVariables false
set_option linter.unusedSimpArgs false
set_option maxRecDepth 100000
set_option maxHeartbeats 16000000
namespace Go.Proofs.YtihdbncoijhihaaGreat
section
open Go.RowKit
section
variable {w w':World} {pf:Nat} {R:Rf} {S:Fs}
theorem rgetZ_fix (h:RfAt w pf R S) (k:Int):∃ ea el ec,EntsAt w ea el ec (S.getZ k).ents∧∀ w1,Below w.heap.size w w1→
  Calls Tryz.prog 67 #[.pointer (some ⟨pf,0,none⟩),.int .i64 k] w1 fun e w'=>e=.returned ((S.getZ k).v ea el ec)∧Below w1.heap.size w1 w':=by
 cases hg:S.get k with
 | none=>
  rw [getZ_none hg];exact⟨none,0,0,EntsAt.nil w,fun w1 hb=>rget_no (h.keep hb) hg⟩
 | some a=>
  rw [getZ_some hg];exact rget_fix h hg
theorem rplaceZ (h:RfAt w pf R S) {N:Nat} (hk:FsOk S N) (dir:Int) (s:ByteArray) (hs:s.size≤100000):∃ dz ea el ec,EntsAt w ea el ec dz.ents∧(S.placeE c00 dir s=0→S.get dir=some dz)∧
  Calls Tryz.prog 220 #[.pointer (some ⟨pf,0,none⟩),.agg #[.int .i64 0,.int .i64 0],.int .i64 dir,.string s] w fun e w'=>e=.returned (.tuple #[dz.v ea el ec,.int .i64 (S.placeE c00 dir s)])∧Below w.heap.size w w':=by
 cases hg:S.get dir with
 | none=>
  have hp:S.placeE c00 dir s=5:=by unfold Fs.placeE;rw [hg]
  have hq:=rplace_none h dir s hg;rw [←hp] at hq;exact⟨an0,none,0,0,EntsAt.nil w,(fun e=>absurd (hp.symm.trans e) (by decide)),hq⟩
 | some d=>
  obtain⟨ea,el,ec,hE,hP⟩:=rplace_some h hk dir s hs d hg;by_cases hp:S.placeE c00 dir s=0
  ·refine ⟨d,ea,el,ec,hE,(fun _=>rfl),hP.mono ?_⟩;rintro e w1 ⟨⟨h1,-⟩|⟨-,rfl⟩,hb⟩
   ·exact absurd hp h1
   ·exact ⟨by rw [hp],hb⟩
  ·refine ⟨an0,none,0,0,EntsAt.nil w,(fun e=>absurd e hp),hP.mono ?_⟩;rintro e w1 ⟨⟨-,rfl⟩|⟨h1,-⟩,hb⟩
   ·exact ⟨rfl,hb⟩
   ·exact absurd h1 hp
theorem getZ_no {S:Fs} {N:Nat} (hk:FsOk S N) (k:Int):((S.getZ k).no == 0)=(S.get k).isNone:=by
 cases hg:S.get k with
 | none=>rw [getZ_none hg];rfl
 | some a=>
  rw [getZ_some hg];obtain⟨-,h1,h2,-⟩:=hk.get hg;simp only [Option.isNone_some,beq_eq_false_iff_ne,ne_eq];omega
theorem rhard_any (h:RfAt w pf R S) {N:Nat} (hk:FsOk S N) (hN:N≤100000) (no dir:Int) (s:ByteArray) (hs:s.size≤100000) :
  Calls Tryz.prog 242 #[.pointer (some ⟨pf,0,none⟩),.agg #[.int .i64 0,.int .i64 0],.int .i64 no,.int .i64 dir,.string s] w fun e w'=>e=.returned (.int .i64 (S.hard c00 R.now no dir s).2)∧∃ R',RfAt w' pf R' (S.hard c00 R.now no dir s).1∧Stp (R.F pf) (R'.F pf) w w'∧Rf.Like R R':=by
 have hkeep:∀ w2,Below w.heap.size w w2→∃ R',RfAt w2 pf R' S∧Stp (R.F pf) (R'.F pf) w w2∧Rf.Like R R':=fun w2 hb=>⟨R,h.keep hb,Stp.of_below hb,Rf.Like.refl R⟩;have HKp:=Lib.hid hkeep;have hb0:=(Below.refl _ w).alloc (Nat.le_refl _) (.cells #[.int .i64 0,.int .i64 0] 67);have HB0:=Lib.hid hb0;obtain⟨dz,da,dl,dc,hE,hdz,hP⟩:=rplaceZ (h.keep hb0) hk dir s hs;obtain⟨na,nl,nc,hNE,hG⟩:=rgetZ_fix h no;have hnz:=getZ_no hk no;have HP:=Lib.hid hP;have HG:=Lib.hid hG;have HE:=Lib.hid hE;have HDl:=Lib.hid hE.len;have HF:=Lib.hid (show ∀ k,w.heap.size≤k→¬ R.F pf k from fun k hk hf=>by have:=h.lt hf;omega);have HH:=Lib.hid h;by_cases hpe:S.placeE c00 dir s=0
 ·have hgd:=hdz hpe;obtain⟨hdo,hdn,-,-⟩:=hk.get hgd
  cases hgn:S.get no with
  | none=>
   have HQ:=Lib.hid (show S.hard c00 R.now no dir s=(S,5) by unfold Fs.hard;rw [if_neg (by simpa using hpe),hgd,hgn]);rw [hgn] at hnz;have hnz2:((S.getZ no).no == 0)=true:=hnz;rw [hpe] at HP;unfold An.v at HP HG;generalize S.getZ no=nd at HG hnz2 hNE;clear h hk hkeep hb0 hE hdz hP hG hnz hgd hdo hdn hgn hpe hNE;go_enter Tryz.func242,Tryz.ntmps242;go_wp2_with fail;refine HP.out.mono ?_;rintro e w1 ⟨rfl,hb1⟩;have hbb:=balloc (bnext HB0.out hb1) (.cells #[.int .i64 dz.no,.int .i64 dz.dev,.int .i64 dz.kind,.int .i64 dz.mode,.int .i64 dz.uid,.int .i64 dz.gid,.int .i64 dz.mtime,.int .i64 dz.ctime,.int .i64 dz.links,.int .i64 dz.up,.string dz.data,.slice da dl dc] 49);have HBB:=Lib.hid hbb;clear hb1 hbb;go_wp2_with fail;refine (HG.out _ HBB.out).mono ?_;rintro e w2 ⟨rfl,hb2⟩;have HB2:=Lib.hid (balloc (bnext HBB.out hb2) (.cells #[.int .i64 nd.no,.int .i64 nd.dev,.int .i64 nd.kind,.int .i64 nd.mode,.int .i64 nd.uid,.int .i64 nd.gid,.int .i64 nd.mtime,.int .i64 nd.ctime,.int .i64 nd.links,.int .i64 nd.up,.string nd.data,.slice na nl nc] 49));clear hb2;go_wp2_with fail;go_ret;rw [HQ.out];exact⟨rfl,HKp.out _ HB2.out⟩
  | some n=>
   rw [getZ_some hgn] at hnz hG HG hNE;rw [hgn] at hnz;have hnz2:(n.no == 0)=false:=hnz;have hnn:=an_no hgn;have hel:dl≤100000:=by have:=hdo.few;have:=HDl.out;omega
   have HQ0:=Lib.hid (show S.hard c00 R.now no dir s=if n.kind=1 then (S,4) else if entFind dz.ents s≠0 then (S,7) else if n.dev≠dz.dev then (S,11) else if 1000≤n.links then (S,18) else ((S.set {n with links:=n.links+1,ctime:=R.now}).touch R.now dir (entPut dz.ents s no),0) by unfold Fs.hard;rw [if_neg (by simpa using hpe),hgd,hgn]);have HSet:=Lib.hid (fun w1 (hb:Below w.heap.size w w1)=>rset_any (h.keep hb) hk.nums (a:={n with links:=n.links+1,ctime:=R.now}) (hNE.keep hb) (b:=n) (by show S.get n.no=some n;rw [hnn];exact hgn));have HNm:=Lib.hid (hk.nums.set {n with links:=n.links+1,ctime:=R.now});have HGd:=Lib.hid (show n.kind≠1→(S.set {n with links:=n.links+1,ctime:=R.now}).get dir=some dz from fun hk1=>by
    rw [an_set (b:=n) (by show S.get n.no=some n;rw [hnn];exact hgn),if_neg]
    ·exact hgd
    ·intro e;have e2:dir=no:=e.trans hnn;rw [e2,hgn] at hgd;injection hgd with hgd;subst hgd;have h5:=hpe;unfold Fs.placeE at h5;rw [e2,hgn] at h5;simp only at h5;rw [if_pos hk1] at h5
     cases h5)
   have hlk:-9223372036854775808≤n.links∧n.links≤1000:=by
    have:=(hk.get hgn).1.links;omega
   obtain⟨pc,-,pz⟩:=h.blk.facts;rw [hpe] at HP;unfold An.v at HP HG HSet;generalize hnow:R.now=now at HQ0 HSet HNm HGd pc;have HNow:=Lib.hid hnow;clear h hk hkeep hb0 hE hdz hP hG hnz hgd hdo hdn hgn hpe hNE hnn hnow;go_enter Tryz.func242,Tryz.ntmps242;go_wp2_with fail;refine HP.out.mono ?_;rintro e w1 ⟨rfl,hb1⟩;have hbb:=balloc (bnext HB0.out hb1) (.cells #[.int .i64 dz.no,.int .i64 dz.dev,.int .i64 dz.kind,.int .i64 dz.mode,.int .i64 dz.uid,.int .i64 dz.gid,.int .i64 dz.mtime,.int .i64 dz.ctime,.int .i64 dz.links,.int .i64 dz.up,.string dz.data,.slice da dl dc] 49);have hd1:=Blk.new w1 #[.int .i64 dz.no,.int .i64 dz.dev,.int .i64 dz.kind,.int .i64 dz.mode,.int .i64 dz.uid,.int .i64 dz.gid,.int .i64 dz.mtime,.int .i64 dz.ctime,.int .i64 dz.links,.int .i64 dz.up,.string dz.data,.slice da dl dc] 49;have hE1:=(HE.out.keep hb1).keep ((Below.refl _ w1).alloc (Nat.le_refl _) (.cells #[.int .i64 dz.no,.int .i64 dz.dev,.int .i64 dz.kind,.int .i64 dz.mode,.int .i64 dz.uid,.int .i64 dz.gid,.int .i64 dz.mtime,.int .i64 dz.ctime,.int .i64 dz.links,.int .i64 dz.up,.string dz.data,.slice da dl dc] 49));have hD0:w.heap.size≤w1.heap.size:=(bnext HB0.out hb1).size;go_upto_region 2 with fail;generalize w1.alloc (.cells #[.int .i64 dz.no,.int .i64 dz.dev,.int .i64 dz.kind,.int .i64 dz.mode,.int .i64 dz.uid,.int .i64 dz.gid,.int .i64 dz.mtime,.int .i64 dz.ctime,.int .i64 dz.links,.int .i64 dz.up,.string dz.data,.slice da dl dc] 49)=X at hbb hd1 hE1 ⊢;generalize w1.heap.size=D at hd1 hD0 ⊢;have HBB:=Lib.hid hbb;have HX:=Lib.hid (And.intro hd1 hE1);clear hb1 hbb hd1 hE1;go_wp2_with fail;refine (HG.out _ HBB.out).mono ?_;rintro e w2 ⟨rfl,hb2⟩;have hd2:=(HX.out.1.keep hb2).old (.cells #[.int .i64 n.no,.int .i64 n.dev,.int .i64 n.kind,.int .i64 n.mode,.int .i64 n.uid,.int .i64 n.gid,.int .i64 n.mtime,.int .i64 n.ctime,.int .i64 n.links,.int .i64 n.up,.string n.data,.slice na nl nc] 49);have hE2:=(HX.out.2.keep hb2).keep ((Below.refl _ w2).alloc (Nat.le_refl _) (.cells #[.int .i64 n.no,.int .i64 n.dev,.int .i64 n.kind,.int .i64 n.mode,.int .i64 n.uid,.int .i64 n.gid,.int .i64 n.mtime,.int .i64 n.ctime,.int .i64 n.links,.int .i64 n.up,.string n.data,.slice na nl nc] 49));have hb3:=balloc (bnext HBB.out hb2) (.cells #[.int .i64 n.no,.int .i64 n.dev,.int .i64 n.kind,.int .i64 n.mode,.int .i64 n.uid,.int .i64 n.gid,.int .i64 n.mtime,.int .i64 n.ctime,.int .i64 n.links,.int .i64 n.up,.string n.data,.slice na nl nc] 49);have hn2:=Blk.new w2 #[.int .i64 n.no,.int .i64 n.dev,.int .i64 n.kind,.int .i64 n.mode,.int .i64 n.uid,.int .i64 n.gid,.int .i64 n.mtime,.int .i64 n.ctime,.int .i64 n.links,.int .i64 n.up,.string n.data,.slice na nl nc] 49;have hN0:w.heap.size≤w2.heap.size:=(bnext HBB.out hb2).size;have hDN:D<w2.heap.size:=Nat.lt_of_lt_of_le HX.out.1.lt hb2.size;go_upto_region 3 with fail;generalize w2.alloc (.cells #[.int .i64 n.no,.int .i64 n.dev,.int .i64 n.kind,.int .i64 n.mode,.int .i64 n.uid,.int .i64 n.gid,.int .i64 n.mtime,.int .i64 n.ctime,.int .i64 n.links,.int .i64 n.up,.string n.data,.slice na nl nc] 49)=Z at hd2 hE2 hb3 hn2 ⊢;generalize w2.heap.size=M at hn2 hN0 hDN ⊢;have HZ:=Lib.hid (And.intro hd2 (And.intro hE2 (And.intro hb3 hn2)));have HFd:=Lib.hid (rfind_any dz.ents da dl dc s Z hE2);have HBZ:=Lib.hid hb3;obtain⟨dcc,dcf,dcz⟩:=hd2.facts;obtain⟨ncc,ncf,ncz⟩:=hn2.facts;clear hb2 hd2 hE2 hb3 hn2;by_cases h1:n.kind=1
   ·have HQ:=Lib.hid (HQ0.out.trans (if_pos h1));have q1:(n.kind == 1)=true:=by simpa using h1
    clear h1;go_wp2_with fail;go_ret;rw [HQ.out];exact⟨rfl,HKp.out _ HBZ.out⟩
   ·have HQ1:=Lib.hid (HQ0.out.trans (if_neg h1));have q1:(n.kind == 1)=false:=by simpa using h1
    have HGd2:=Lib.hid (HGd.out h1);clear h1;go_wp2_with fail;refine HFd.out.mono ?_;rintro e w4 ⟨rfl,hb4⟩;obtain⟨hd2,hE2,hb3,hn2⟩:=HZ.out;have hd4:=hd2.keep hb4;have hn4:=hn2.keep hb4;have hE4:=hE2.keep hb4;have hbw:=bnext hb3 hb4;have HW4:=Lib.hid (And.intro hd4 (And.intro hn4 (And.intro hE4 hbw)));clear dcc dcf dcz ncc ncf ncz;obtain⟨dcc,dcf,dcz⟩:=hd4.facts;obtain⟨ncc,ncf,ncz⟩:=hn4.facts;clear hb4 hd2 hE2 hb3 hn2 hd4 hn4 hE4 hbw;by_cases h2:entFind dz.ents s=0
    ·have HQ2:=Lib.hid (HQ1.out.trans (if_neg (by simpa using h2)));have q2:(entFind dz.ents s != 0)=false:=by simpa using h2
     clear h2;by_cases h3:n.dev=dz.dev
     ·have HQ3:=Lib.hid (HQ2.out.trans (if_neg (by simpa using h3)));have q3:(n.dev != dz.dev)=false:=by simpa using h3
      clear h3;by_cases h4:1000≤n.links
      ·have HQ:=Lib.hid (HQ3.out.trans (if_pos h4));go_wp2_with fail;go_ret;rw [HQ.out];exact⟨rfl,HKp.out _ HW4.out.2.2.2⟩
      ·have HQ:=Lib.hid (HQ3.out.trans (if_neg h4));obtain⟨hd4,hn4,hE4,hbw⟩:=HW4.out;have pc3:=(hbw.cell (p:=⟨pf,3,none⟩) pz).trans (pc 3);have hp1:¬ pf=M:=by omega
       have hp2:¬ M=pf:=by omega
       have hp3:¬ D=M:=by omega
       have hp4:¬ M=D:=by omega
       have hm:=((Mod.refl (fun k=>k=M) w4).setCell (a:=⟨M,8,none⟩) (.inl rfl) (.int .i64 (n.links+1))).setCell (a:=⟨M,7,none⟩) (.inl rfl) (.int .i64 now);have hn5:=(hn4.set 8 (.int .i64 (n.links+1))).set 7 (.int .i64 now);have hd5:=hd4.mod hm (by omega);have hE5:=hE4.turn (fun b cur hc=>hm.block b (Array.getElem?_eq_some_iff.1 hc).1 (fun e=>by
        subst e;unfold Blk at hn4;rw [hn4] at hc;injection hc with hc;injection hc with _ hc;revert hc;decide)) hm.size
       have hbY:=hm.below (B:=w.heap.size) (fun k hk=>by omega) hbw.size;have HY:=Lib.hid (And.intro hd5 (And.intro hn5 (And.intro hE5 (hbw.trans hbY))));clear hd4 hn4 hE4 hbw hm hn5 hd5 hE5 hbY;go_upto_region 17 with fail;generalize (w4.setCell ⟨M,8,none⟩ (.int .i64 (n.links+1))).setCell ⟨M,7,none⟩ (.int .i64 now)=Y at HY ⊢;obtain⟨hd5,hn5,hE5,hbY⟩:=HY.out;have HS:=Lib.hid (HSet.out Y hbY);have HBY:=Lib.hid hbY;have hhY:=HH.out.keep hbY;clear dcc dcf dcz ncc ncf ncz pc3;obtain⟨ncc,ncf,ncz⟩:=hn5.facts;clear hn5 hbY;go_wp2_with fail;refine HS.out.mono ?_;rintro e w6 ⟨rfl,R6,hR6,hS6,hL6,-⟩;have hd6:=hd5.mod hS6.mod (HF.out D hD0);have hE6:=hE5.rf hhY hS6;have HR6:=Lib.hid (And.intro hR6 (And.intro ((Stp.of_below HBY.out).trans hS6) hL6));obtain⟨dcc,dcf,dcz⟩:=hd6.facts;have HPu:=Lib.hid (rput_any dz.ents da dl dc s no w6 hE6 (by omega));clear hR6 hS6 hL6 hd6 hE6 hd5 hE5 hhY ncc ncf ncz;go_wp2_with fail;refine HPu.out.mono ?_;rintro e w7 ⟨⟨a7,n7,c7,rfl,hE7⟩,hb7⟩;have HTo:=Lib.hid (rtouch_any (HR6.out.1.keep hb7) HNm.out dir HGd2.out hE7);rw [HR6.out.2.2.now,HNow.out] at HTo;have HB7:=Lib.hid hb7;clear hE7 hb7 dcc dcf dcz;go_wp2_with fail;refine HTo.out.mono ?_;rintro e w8 ⟨rfl,R8,hR8,hS8,hL8⟩;have HR8:=Lib.hid (And.intro hR8 (And.intro ((HR6.out.2.1.trans (Stp.of_below HB7.out)).trans hS8) (HR6.out.2.2.trans hL8)));clear hR8 hS8 hL8;go_wp2_with fail;go_ret;rw [HQ.out];exact⟨rfl,R8,HR8.out⟩
     ·have HQ:=Lib.hid (HQ2.out.trans (if_pos (by simpa using h3)));have q3:(n.dev != dz.dev)=true:=by simpa using h3
      clear h3;go_wp2_with fail;go_ret;rw [HQ.out];exact⟨rfl,HKp.out _ HW4.out.2.2.2⟩
    ·have HQ:=Lib.hid (HQ1.out.trans (if_pos (by simpa using h2)));have q2:(entFind dz.ents s != 0)=true:=by simpa using h2
     clear h2;go_wp2_with fail;go_ret;rw [HQ.out];exact⟨rfl,HKp.out _ HW4.out.2.2.2⟩
 ·have HQ:=Lib.hid (show S.hard c00 R.now no dir s=(S,S.placeE c00 dir s) by unfold Fs.hard;rw [if_pos hpe]);generalize S.placeE c00 dir s=pe at HQ HP hpe;have hpb:(pe != 0)=true:=by simpa using hpe
  unfold An.v at HP HG;generalize S.getZ no=nd at HG hNE;clear h hk hkeep hb0 hE hdz hP hG hnz hpe hNE;go_enter Tryz.func242,Tryz.ntmps242;go_wp2_with fail;refine HP.out.mono ?_;rintro e w1 ⟨rfl,hb1⟩;have hbb:=balloc (bnext HB0.out hb1) (.cells #[.int .i64 dz.no,.int .i64 dz.dev,.int .i64 dz.kind,.int .i64 dz.mode,.int .i64 dz.uid,.int .i64 dz.gid,.int .i64 dz.mtime,.int .i64 dz.ctime,.int .i64 dz.links,.int .i64 dz.up,.string dz.data,.slice da dl dc] 49);have HBB:=Lib.hid hbb;clear hb1 hbb;go_wp2_with fail;refine (HG.out _ HBB.out).mono ?_;rintro e w2 ⟨rfl,hb2⟩;have HB2:=Lib.hid (balloc (bnext HBB.out hb2) (.cells #[.int .i64 nd.no,.int .i64 nd.dev,.int .i64 nd.kind,.int .i64 nd.mode,.int .i64 nd.uid,.int .i64 nd.gid,.int .i64 nd.mtime,.int .i64 nd.ctime,.int .i64 nd.links,.int .i64 nd.up,.string nd.data,.slice na nl nc] 49));clear hb2;go_wp2_with fail;go_ret;rw [HQ.out];exact⟨rfl,HKp.out _ HB2.out⟩
end
end
section
open Go.RowKit
def saR (cs:List Value) (x:List UInt8):Prop:=cs=encS x
def SA (w:World) (a:Option Addr) (n c:Nat) (l:List (List UInt8)):Prop:=SliceAt w 1 saR a n c l
theorem SA.len {w:World} {a:Option Addr} {n c:Nat} {l:List (List UInt8)} (h:SA w a n c l):l.length=n:=h.1
theorem SA.of_own {w:World} {base c:Nat} {a:Option Addr} {l:List (List UInt8)} (h:OS w base (.slice a l.length c) l):SA w a l.length c l:=own_slice (R:=saR) (by omega) encS_len (fun _=>rfl) h
theorem SA.cell {w:World} {a:Option Addr} {n c:Nat} {l:List (List UInt8)} (h:SA w a n c l) {b off:Nat} (ha:a=some ⟨b,off,none⟩) (k:Nat) (hk:k<l.length):w.cell? ⟨b,off+k,none⟩=some (.string (str l[k])):=by
 obtain⟨h1,-,-,h0 | ⟨b',off',he,hb,hel⟩⟩:=h
 ·omega
 ·rw [ha] at he;injection he with he;injection he with e1 e2;subst e1 e2;obtain⟨cs,h1,h2,h3⟩:=hel k hk;subst h2;have:=h3 0 (by simp [encS]);rw [Nat.mul_one,Nat.add_zero] at this;exact this
theorem SA.some_of {w:World} {a:Option Addr} {n c:Nat} {l:List (List UInt8)} (h:SA w a n c l) (hn:0<n):∃ b off,a=some ⟨b,off,none⟩∧b<w.heap.size:=by
 obtain⟨h1,-,-,h0 | ⟨b',off',he,hb,hel⟩⟩:=h
 ·omega
 ·exact ⟨b',off',he,hb⟩
theorem SA.keep {w w':World} {a:Option Addr} {n c:Nat} {l:List (List UInt8)} (h:SA w a n c l) (hb:Below w.heap.size w w'):SA w' a n c l:=by
 refine ⟨h.1,h.2.1,h.2.2.1,h.2.2.2.imp id ?_⟩;rintro ⟨b,off,rfl,hlt,hel⟩;refine ⟨b,off,rfl,Nat.lt_of_lt_of_le hlt hb.size,fun i hi=>?_⟩;obtain⟨cs,h1,h2,h3⟩:=hel i hi;exact⟨cs,h1,h2,fun j hj=>(hb.cell (p:=⟨b,_,none⟩) hlt).trans (h3 j hj)⟩
theorem SA.setA {w:World} {a:Option Addr} {n c:Nat} {l:List (List UInt8)} (h:SA w a n c l) {B:Nat} (hB:∀ b off,a=some ⟨b,off,none⟩→b≠B) (i:Nat) (v:Value):SA (w.setCell ⟨B,i,none⟩ v) a n c l:=by
 refine ⟨h.1,h.2.1,h.2.2.1,h.2.2.2.imp id ?_⟩;rintro ⟨b,off,rfl,hlt,hel⟩;have hq:=Below.heap_setCell w ⟨B,i,none⟩ v b (hB b off rfl);refine ⟨b,off,rfl,by simpa [World.setCell] using hlt,fun i hi=>?_⟩;obtain⟨cs,h1,h2,h3⟩:=hel i hi;refine ⟨cs,h1,h2,fun j hj=>?_⟩;rw [←h3 j hj];simp only [World.cell?,hq]
theorem SA.tail {w:World} {a:Option Addr} {n c:Nat} {x:List UInt8} {l:List (List UInt8)} (h:SA w a n c (x :: l)) {b off:Nat} (ha:a=some ⟨b,off,none⟩):SA w (if c=1 then a else some ⟨b,off+1,none⟩) (n - 1) (c - 1) l:=by
 have hl:=h.1;obtain⟨-,h1,h2,h0 | ⟨b',off',he,hb,hel⟩⟩:=h
 ·simp at hl;omega
 ·rw [ha] at he;injection he with he;injection he with e1 e2;subst e1 e2;have hl':l.length=n - 1:=by simp at hl;omega
  have hn1:1≤n:=by rw [←hl];simp
  refine ⟨hl',by omega,by omega,?_⟩;by_cases hn:n=1
  ·exact .inl (by omega)
  ·refine .inr ⟨b,off+1,by rw [if_neg (by omega)],hb,fun i hi=>?_⟩;obtain⟨cs,h3,h4,h5⟩:=hel (i+1) (by simp;omega);refine ⟨cs,h3,by simpa using h4,fun j hj=>?_⟩;rw [←h5 j hj];congr 2;omega
theorem sa_app {w:World} {base:Nat} {v:Value} {ps:List (List UInt8)} {a:Option Addr} {n c:Nat} {l:List (List UInt8)} (hO:OS w base v ps) (hS:SA w a n c l) (hl:ps.length+l.length≤1000000) (hbase:base≤w.heap.size) :
  ∃ a' n' c' W,(Builtin.append_ #[61,61] 61 #[v,.slice a n c]).run Tryz.prog w=.ok (.slice a' n' c') W∧SA W a' n' c' (ps ++ l)∧(∀ b off,a'=some ⟨b,off,none⟩→base≤b)∧Below base w W:=by
 obtain⟨i0,hi,hz0,hz1,hz2⟩:=info_parts str_info;have hln:=hS.len
 cases l with
 | nil=>
  obtain rfl:n=0:=by simpa using hln.symm
  obtain⟨a1,c1,rfl,-,-,hf⟩:=own_form hO;refine ⟨a1,ps.length,c1,w,step_app_nil _ Tryz.underlying61 hi hO a c,?_,?_,Below.refl _ _⟩
  ·rw [List.append_nil];exact SA.of_own hO
  ·rintro b off rfl;rcases hf with ⟨h,-⟩|⟨g,h,hb,-⟩
   ·cases h
   ·injection h with h;injection h with h1 h2;omega
 | cons x l=>
  have hn:0<n:=by rw [←hln];simp
  obtain⟨b,off,rfl,hb⟩:=hS.some_of hn;obtain⟨g,cap,W,h1,h2,h3,h4⟩:=step_app 61 Tryz.underlying61 hi hz0 hz1 hz2 rfl (by omega) hO ⟨b,off,none⟩ n c ((x :: l).flatMap encS) (by rw [flat_len encS_len,hln])
   (fun j u hu=>by
    have he:(x :: l).flatMap encS=(x :: l).map (fun y=>Value.string (str y)):=by
     generalize (x :: l)=m
     induction m with
     | nil=>rfl
     | cons y m ih=>simp only [List.flatMap_cons,encS,List.map_cons,ih];rfl
    rw [he,List.getElem?_map] at hu;obtain⟨y,hy,rfl⟩:=Option.map_eq_some_iff.1 hu;obtain⟨hj,rfl⟩:=List.getElem?_eq_some_iff.1 hy;have:=hS.cell rfl j hj;by_cases h0:j=0
    ·subst h0;simpa [Addr.add] using this
    ·simpa [Addr.add,h0] using this)
   (by intro u hu;obtain ⟨y,-,hy⟩:=List.mem_flatMap.1 hu;simp [encS] at hy;subst hy;rfl) hn (by unfold maxLen;omega) (by omega) hbase
  have hO2:OS W base (.slice (some ⟨g,0,none⟩) (ps ++ x :: l).length cap) (ps ++ x :: l):=by
   unfold OS;rw [List.length_append,List.flatMap_append,hln];exact h2
  refine ⟨_,_,_,W,h1,?_,?_,h3.below (fun k hk=>(hO.lt k hk).1) hbase⟩
  ·have:=SA.of_own hO2
   rwa [List.length_append,hln] at this
  ·rintro b' off' h;injection h with h;injection h with h;subst h;exact (own_frozen h2).2.1
def TripAt (w:World) (Bt pw:Nat) (c:Cr) (k:Int) (ta:Option Addr) (tl tc:Nat) (hops:Int) (must:Bool):Prop:=
 Blk w Bt #[.pointer (some ⟨pw,0,none⟩),.int .i64 c.u,.int .i64 c.g,.int .i64 k,.slice ta tl tc,.int .i64 hops,.bool must] 271
theorem below_mod {B:Nat} {w w':World} (h:Below w.heap.size w w'):Mod (fun k=>k=B) w w':=Mod.of_below h
def FlP (w:World) (Bt pw:Nat) (c:Cr) (k hops:Int) (must:Bool) (l:List (List UInt8)) (s:ByteArray) (e:Ending) (w':World):Prop:=
 Mod (fun k=>k=Bt) w w'∧
   ((8<hops+1∧e=.returned (.int .i64 12))∨(hops+1≤8∧s.data.toList=[]∧e=.returned (.int .i64 5))∨
    (hops+1≤8∧s.data.toList≠[]∧e=.returned (.int .i64 0)∧∃ ta' tl' tc',TripAt w' Bt pw c (if s.data.toList.head? = some 47 then 1 else k) ta' tl' tc' (hops+1) (if l=[] then must || slashB s.data.toList else must)∧
     SA w' ta' tl' tc' (partsL s.data.toList ++ l)∧∀ b off,ta'=some ⟨b,off,none⟩→w.heap.size≤b))
theorem follow_any {w:World} {Bt pw:Nat} {c:Cr} {k:Int} {ta:Option Addr} {tl tc:Nat} {hops:Int} {must:Bool} (hb:TripAt w Bt pw c k ta tl tc hops must) {l:List (List UInt8)} (hl:SA w ta tl tc l) (hta:∀ b off,ta=some ⟨b,off,none⟩→b≠Bt) (s:ByteArray) (hs:s.size≤4096) (hll:l.length≤900000) (hh:0≤hops∧hops≤100) :
  Calls Tryz.prog 174 #[.pointer (some ⟨Bt,0,none⟩),.string s] w fun e w'=>FlP w Bt pw c k hops must l s e w':=by
 unfold TripAt at hb;have HB:=Lib.hid hb;have HL:=Lib.hid hl;obtain⟨bc,bf,bz⟩:=hb.facts;obtain⟨hh0,hh1⟩:=hh;have hlen:=hl.len;have htl:tl≤900000:=by omega
 have HTa:=Lib.hid hta;have HLen:=Lib.hid hlen;clear hb hl hta hlen;by_cases h1:8<hops+1
 ·have h1a:(8:Int)<hops+1:=h1;have h1b:(7:Int)<hops:=by omega
  have h1c:(8:Int)≤hops:=by omega
  go_enter Tryz.func174,Tryz.ntmps174;go_wp2_with fail;go_ret;exact⟨(Mod.refl (fun k=>k=Bt) w).setCell (a:=⟨Bt,5,none⟩) (.inl rfl) _,.inl ⟨h1,rfl⟩⟩
 ·have h2':hops+1≤8:=by omega
  have h2a:hops≤7:=by omega
  by_cases h3:s.data.toList=[]
  ·have h3':s.toList=[]:=by rw [ba_list];exact h3
   have HE:=Lib.hid h3;clear h1 h3;go_enter Tryz.func174,Tryz.ntmps174;go_wp2_with fail;go_ret;exact⟨(Mod.refl (fun k=>k=Bt) w).setCell (a:=⟨Bt,5,none⟩) (.inl rfl) _,.inr (.inl ⟨h2',HE.out,rfl⟩)⟩
  ·have h3':s.toList.isEmpty=false:=by rw [ba_list];simpa using h3
   have hs0:0<s.size:=by
    have:s.data.toList.length=s.size:=Array.length_toList;rcases Nat.eq_zero_or_pos s.size with h | h
    ·exact absurd (List.eq_nil_of_length_eq_zero (by omega)) h3
    ·exact h
   have HE:=Lib.hid h3;have hhd:s.data.toList.head? = some s[0]:=by
    rw [List.head?_eq_getElem?,List.getElem?_eq_getElem (by rw [Array.length_toList];exact hs0)];rfl
   obtain⟨at2,hat2⟩:∃ x:Int,x=if s.data.toList.head? = some 47 then 1 else k:=⟨_,rfl⟩;have HAt:=Lib.hid hat2;have HHd:=Lib.hid hhd;have h1n:¬ (8:Int)<hops+1:=h1;clear h1 h3 hat2 hhd;go_enter Tryz.func174,Tryz.ntmps174;go_upto_if 21 with fail
   go_cut [] (fun wx=>TripAt wx Bt pw c at2 ta tl tc (hops+1) must∧SA wx ta tl tc l∧Mod (fun k=>k=Bt) w wx)
   case first=>
    by_cases h47:s[0]=47
    ·have hc1:((s[0].toNat:Int) == 47)=true:=by rw [h47];rfl
     have HA2:=Lib.hid (show at2=1 by rw [HAt.out,HHd.out,h47];rfl);clear h47;go_wp2_with fail;go_meet;rw [HA2.out];exact⟨(HB.out.set 5 _).set 3 _,(HL.out.setA HTa.out 5 _).setA HTa.out 3 _,((Mod.refl (fun k=>k=Bt) w).setCell (a:=⟨Bt,5,none⟩) (.inl rfl) _).setCell (a:=⟨Bt,3,none⟩) (.inl rfl) _⟩
    ·have hc1:((s[0].toNat:Int) == 47)=false:=by
      simp only [beq_eq_false_iff_ne,ne_eq];intro h;exact h47 (by rw [u8_eq];show s[0].toNat=47;omega)
     have HA2:=Lib.hid (show at2=k by rw [HAt.out,HHd.out,if_neg (by intro e;injection e with e;exact h47 e)]);clear h47;go_wp2_with fail;go_meet;rw [HA2.out];exact⟨HB.out.set 5 _,HL.out.setA HTa.out 5 _,(Mod.refl (fun k=>k=Bt) w).setCell (a:=⟨Bt,5,none⟩) (.inl rfl) _⟩
   case rest=>
    obtain⟨hb,hl,hm⟩:=hcut;generalize wc=wa at hb hl hm ⊢;unfold TripAt at hb;have HB1:=Lib.hid hb;have HL1:=Lib.hid hl;have HM1:=Lib.hid hm;have hsz1:=hm.size;obtain⟨m2,hm2⟩:∃ x:Bool,x=if l=[] then must || slashB s.data.toList else must:=⟨_,rfl⟩;have HM2:=Lib.hid hm2;have HSl:=Lib.hid (fun w=>slash_any s w (by omega));clear bc bf bz;obtain⟨bc,bf,bz⟩:=hb.facts;clear hb hl hm hm2;generalize hsl:slashB s.data.toList=sl at HSl HM2;have HSLe:=Lib.hid hsl;clear hsl;go_upto_if 30 with fail
    go_cut [] (fun wx=>TripAt wx Bt pw c at2 ta tl tc (hops+1) m2∧SA wx ta tl tc l∧Mod (fun k=>k=Bt) w wx)
    case first=>
     by_cases hl0:l=[]
     ·have HA2:=Lib.hid (show m2=(must || sl) by rw [HM2.out,if_pos hl0]);have ht0:tl=0:=by rw [←HLen.out,hl0];rfl
      subst ht0;clear hl0
      cases must with
      | true=>
       go_wp2_with fail;go_meet;rw [HA2.out];exact⟨HB1.out.set 6 _,HL1.out.setA HTa.out 6 _,HM1.out.setCell (a:=⟨Bt,6,none⟩) (.inl rfl) _⟩
      | false=>
       go_wp2_with (refine (HSl.out _).mono ?_;rintro e w1 ⟨rfl,rfl⟩);go_meet;rw [HA2.out];exact⟨HB1.out.set 6 _,HL1.out.setA HTa.out 6 _,HM1.out.setCell (a:=⟨Bt,6,none⟩) (.inl rfl) _⟩
     ·have HA2:=Lib.hid (show m2=must by rw [HM2.out,if_neg hl0]);have ht0:0<tl:=by rw [←HLen.out];exact List.length_pos_iff.2 hl0
      have ht1:((tl:Int) == 0)=false:=by simp;omega
      clear hl0;go_wp2_with fail;go_meet;rw [HA2.out];exact⟨HB1.out,HL1.out,HM1.out⟩
    case rest=>
     obtain⟨hb,hl,hm⟩:=hcut;generalize wc=wb at hb hl hm ⊢;unfold TripAt at hb;have HB2:=Lib.hid hb;have HL2:=Lib.hid hl;have HM3:=Lib.hid hm;have HPs:=Lib.hid (fun w=>nparts_any s w);have HCl:=Lib.hid (show Calls Tryz.prog 170 #[.func (.func 235) #[] #[.pointer (some ⟨wb.heap.size,0,none⟩)]] (wb.alloc (.cells #[.string s] 9)).drew (fun e w'=>(∃ v,e=.returned v∧OS w' wb.heap.size v (partsL s.data.toList))∧Below wb.heap.size wb w') from (pcollect_any s (by omega) wb.drew).mono (fun e w' h=>⟨h.1,(Below.refl _ _).drew.trans h.2⟩));have HPl:=Lib.hid (show (partsL s.data.toList).length+l.length≤1000000 by
      have h1:=parts_len s.data.toList;have h2:s.data.toList.length=s.size:=Array.length_toList;omega)
     clear bc bf bz;obtain⟨bc,bf,bz⟩:=hb.facts;clear hb hl hm;go_wp2_with fail;have mixed:Tryz.prog.follows .mixedOrders=true:=by kernel_rfl
     go_region_law_o (first
      | (refine step_app_run rfl rfl rfl rfl hrun ?_)
      | (go_simp;go_at_call 171;((with_reducible refine (HPs.out _).mono ?_);rintro e w3 ⟨rfl,rfl⟩))
      | (go_simp;go_at_call 170;((with_reducible refine HCl.out.mono ?_);rintro e w4 ⟨⟨v,rfl,hO4⟩,hb4'⟩;have k4:=HB2.out.keep hb4';obtain ⟨a',n',c',W,hrun,hSA,hab,hBW⟩:=sa_app hO4 (HL2.out.keep hb4') HPl.out hb4'.size;have kW:=k4.keepB hBW HB2.out.lt;obtain ⟨c4,f4,z4⟩:=k4.facts;obtain ⟨cW,fW,zW⟩:=kW.facts;have HX:=Lib.hid (And.intro hSA (And.intro hab (And.intro kW (hb4'.trans hBW))));clear hSA hab kW k4 hb4' hBW hO4)))
     all_goals
      go_wp2_with fail;go_ret;obtain⟨hSA,hab,kW,hbW⟩:=HX.out;refine ⟨HM3.out.trans ((below_mod hbW).setCell (a:=⟨Bt,4,none⟩) (.inl rfl) _),.inr (.inr ⟨h2',HE.out,rfl,a',n',c',?_,hSA.setA (fun b off h=>by have q1:=hab b off h;have q2:=HB2.out.lt;omega) 4 _,fun b off h=>Nat.le_trans HM3.out.size (hab b off h)⟩)⟩;rw [←HAt.out,HSLe.out,←HM2.out];exact kW.set 4 _
end
end Go.Proofs.YtihdbncoijhihaaGreat
