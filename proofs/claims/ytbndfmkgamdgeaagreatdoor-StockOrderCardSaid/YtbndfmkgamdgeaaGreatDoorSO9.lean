import Derived.Test.YtbndfmkgamdgeaaGreatDoorSO1
import Derived.Test.YtbndfmkgamdgeaaGreatDoorSO2
import Derived.Test.YtbndfmkgamdgeaaGreatDoorSO3
import Derived.Test.YtbndfmkgamdgeaaGreatDoorSO5
import Derived.Test.YtbndfmkgamdgeaaGreatDoorSO6
import Derived.Test.YtbndfmkgamdgeaaGreatDoorSO7
import Derived.Test.YtbndfmkgamdgeaaGreatDoorSO8
set_option linter.unusedVariables false
set_option linter.unusedSimpArgs false
set_option maxRecDepth 100000
set_option maxHeartbeats 16000000
namespace Go.Proofs.YtbndfmkgamdgeaaGreatDoor
section
open Go.RowKit
section
variable {w w':World} {pw:Nat} {R:Rp} {S:Fs}
theorem G_of (h:WdAt w pw R S) {k:Int} {a:An} (hg:S.get k=some a):∃ g∈R.G,g.a=a∧findNd (R.G.map Gn.e) k=some g.nd∧EntsAt w g.ea g.el g.ec a.ents:=by
 rw [get_G h] at hg
 cases hf:R.G.find? (fun g=>g.a.no == k) with
 | none=>rw [hf] at hg;cases hg
 | some g=>
  rw [hf] at hg;simp only [Option.map_some,Option.some.injEq] at hg;have hm:=List.mem_of_find?_eq_some hf;refine ⟨g,hm,hg,?_,?_⟩
  ·rw [findNd_G,hf];rfl
  ·rw [←hg];exact h.ents g hm
theorem G_no (h:WdAt w pw R S) {k:Int} (hg:S.get k=none):findNd (R.G.map Gn.e) k=none:=by
 rw [get_G h] at hg;rw [findNd_G]
 cases hf:R.G.find? (fun g=>g.a.no == k) with
 | none=>rfl
 | some g=>rw [hf] at hg;cases hg
theorem wget_yes (h:WdAt w pw R S) {k:Int} {a:An} (hg:S.get k=some a):∃ ea el ec,EntsAt w ea el ec a.ents∧
  Calls Tryz.prog 132 #[.pointer (some ⟨R.pt,0,none⟩),.int .i64 k] w fun e w'=>e=.returned (.tuple #[a.v ea el ec,.bool true])∧Below w.heap.size w w':=by
 obtain⟨g,-,rfl,hf,he⟩:=G_of h hg;exact⟨g.ea,g.el,g.ec,he,get_yes g.nd k w R.pt R.pm S.last _ R.clk h.tab hf⟩
theorem wget_no (h:WdAt w pw R S) {k:Int} (hg:S.get k=none) :
  Calls Tryz.prog 132 #[.pointer (some ⟨R.pt,0,none⟩),.int .i64 k] w fun e w'=>e=.returned (.tuple #[an0.v none 0 0,.bool false])∧Below w.heap.size w w':=
 get_no k w R.pt R.pm S.last _ R.clk h.tab (G_no h hg)
theorem over_at (S:Fs) (k:Int) (hk:0<k) (i:Nat) (hi:i<S.ds.length) (h1:∀ j (hj:j<S.ds.length),j<i→S.ds[j].over≠k) (h2:S.ds[i].over=k):S.over k=S.ds[i].root:=by
 unfold Fs.over;rw [if_pos hk];have:S.ds.find? (fun d=>d.over == k)=some S.ds[i]:=by
  rw [List.find?_eq_some_iff_getElem];exact⟨by simpa using h2,i,hi,rfl,fun j hj=>by simpa using h1 j (by omega) hj⟩
 rw [this]
theorem over_none (S:Fs) (k:Int) (h1:∀ j (hj:j<S.ds.length),S.ds[j].over≠k):S.over k=k:=by
 unfold Fs.over
 split
 ·have:S.ds.find? (fun d=>d.over == k)=none:=by
   rw [List.find?_eq_none];intro d hd;obtain⟨j,hj,rfl⟩:=List.mem_iff_getElem.1 hd;simpa using h1 j hj
  rw [this]
 ·rfl
theorem wover_any (h:WdAt w pw R S) (hd:0<S.ds.length) (no:Int) :
  Calls Tryz.prog 122 #[.pointer (some ⟨pw,0,none⟩),.int .i64 no] w fun e w'=>e=.returned (.int .i64 (S.over no))∧Below w.heap.size w w':=by
 have HN:=Lib.hid (wnone_any h hd);obtain⟨g,cap,hv,hle,h63,hg,hc,-,-⟩:=h.devF hd;obtain⟨pc,-,-⟩:=h.blk.facts;rw [hv] at pc;have HC:=Lib.hid hc;clear h hv hc;by_cases h0:0<no
 ·have HO1:=Lib.hid (over_at S no h0);have HO2:=Lib.hid (over_none S no);obtain⟨n,hn⟩:∃ n,S.ds.length=n:=⟨_,rfl⟩;have HNn:=Lib.hid hn;rw [hn] at pc hle hd;generalize S.over no=out at HO1 HO2 ⊢;clear hn;go_enter Tryz.func122,Tryz.ntmps122;go_wp2_with fail;refine HN.out.mono ?_;rintro e w1 ⟨rfl,rfl⟩;go_wp2_with fail
  go_loopw [19] (fun i wr=>∃ k:Nat,k≤n∧i=.int .i64 k∧(∀ j (hj:j<S.ds.length),j<k→S.ds[j].over≠no)∧Below w.heap.size w wr) (fun i _=>n - (intOf i).toNat)
  case atStart=>exact ⟨0,Nat.zero_le _,rfl,fun j _ h=>absurd h (Nat.not_lt_zero _),Below.refl _ _⟩
  case round=>
   obtain⟨k,hk,rfl,hno,hB⟩:=hrel;have HNo:=Lib.hid hno;have HB:=Lib.hid hB;clear hno hB;by_cases hlt:k<n
   ·have hkl:k<S.ds.length:=by rw [HNn.out];exact hlt
    obtain⟨c0,c1,c2,c3,c4,c5⟩:=HC.out k hkl;rw [←HB.out.cell (p:=⟨g,k*6,none⟩) hg] at c0;rw [←HB.out.cell (p:=⟨g,k*6+1,none⟩) hg] at c1;rw [←HB.out.cell (p:=⟨g,k*6+2,none⟩) hg] at c2;rw [←HB.out.cell (p:=⟨g,k*6+3,none⟩) hg] at c3;rw [←HB.out.cell (p:=⟨g,k*6+4,none⟩) hg] at c4;rw [←HB.out.cell (p:=⟨g,k*6+5,none⟩) hg] at c5;by_cases hov:S.ds[k].over=no
    ·have HE:=Lib.hid (HO1.out k hkl HNo.out hov);have hq:(S.ds[k].over == no)=true:=by simpa using hov
     clear hov;generalize S.ds[k]=v at c0 c1 c2 c3 c4 c5 hq HE;go_wp2_with fail;go_ret;exact⟨by rw [HE.out];rfl,balloc HB.out _⟩
    ·have hq:(S.ds[k].over == no)=false:=by simpa using hov
     have HNo2:=Lib.hid (show ∀ j (hj:j<S.ds.length),j<k+1→S.ds[j].over≠no from fun j hj hjk=>by
      by_cases e:j=k
      ·subst e;exact hov
      ·exact HNo.out j hj (by omega))
     clear hov;generalize S.ds[k]=v at c0 c1 c2 c3 c4 c5 hq;go_wp2_with fail;go_roundw
     case rel=>exact ⟨k+1,by omega,by go_num,HNo2.out,balloc HB.out _⟩
     case measure=>simp [intOf];omega
   ·obtain rfl:k=n:=by omega
    have HE:=Lib.hid (HO2.out (fun j hj=>HNo.out j hj (by rw [←HNn.out];exact hj)));go_wp2_with fail;go_ret;exact⟨by rw [HE.out];rfl,HB.out⟩
 ·have hO:S.over no=no:=by unfold Fs.over;rw [if_neg h0]
  rw [hO];generalize S.ds.length=n at pc hle hd;go_enter Tryz.func122,Tryz.ntmps122;go_wp2_with fail;refine HN.out.mono ?_;rintro e w1 ⟨rfl,rfl⟩;go_wp2_with fail;go_ret;exact⟨rfl,Below.refl _ _⟩
theorem wabove_any (h:WdAt w pw R S) {N:Nat} (hk:FsOk S N) (no:Int) :
  Calls Tryz.prog 174 #[.pointer (some ⟨pw,0,none⟩),.int .i64 no] w fun e w'=>e=.returned (.int .i64 (S.above no))∧Below w.heap.size w w':=by
 have HW:=Lib.hid h;have HK:=Lib.hid hk;have HN:=Lib.hid (wnone_any h hk.d1);obtain⟨pc,-,-⟩:=h.blk.facts;have mixed:Tryz.prog.follows .mixedOrders=true:=by kernel_rfl
 cases hg:S.get no with
 | none=>
  have HA:=Lib.hid (show S.above no=0 by unfold Fs.above;rw [hg]);have HG:=Lib.hid (wget_no h hg);unfold An.v an0 at HG;clear h hk hg;go_enter Tryz.func174,Tryz.ntmps174;go_wp2_with fail;refine HN.out.mono ?_;rintro e w1 ⟨rfl,rfl⟩;go_wp2_with fail;refine HG.out.mono ?_;rintro e w1 ⟨rfl,hb1⟩;go_wp2_with fail;go_ret;exact⟨by rw [HA.out];rfl,balloc hb1 _⟩
 | some a=>
  obtain⟨hao,-,h1,-⟩:=hk.get hg;obtain⟨ea,el,ec,-,hgc⟩:=wget_yes h hg;have HG:=Lib.hid hgc;unfold An.v at HG;by_cases hkd:a.kind=1
  ·by_cases hr:S.root a.dev=no∧1<a.dev
   ·obtain ⟨v,hv,hrv,-,-⟩:=root_of hk hao.dev.1 hao.dev.2;obtain⟨g,cap,hdv,hle,h63,hgl,hc,-,-⟩:=h.devF hk.d1;rw [hdv] at pc;obtain⟨k,hkd2⟩:∃ k:Nat,a.dev=(k:Int)+1:=⟨(a.dev - 1).toNat,by have:=hao.dev.1;omega⟩;have hkl:k<S.ds.length:=by have:=hao.dev.2;omega
    have hvk:S.ds[k]=v:=by
     unfold Fs.dev at hv;rw [if_pos (by omega),hkd2,show ((k:Int)+1 - 1).toNat=k by omega,List.getElem?_eq_getElem hkl] at hv;simpa using hv
    have cc:=(hc k hkl).c1;rw [hvk] at cc;have hrt:S.root a.dev=no:=hr.1;have HR:=Lib.hid (fun w1 (hb1:Below w.heap.size w w1)=>wroot_any (h.keep hb1) hk.d1 a.dev);rw [hrt] at HR;have HA:=Lib.hid (show S.above no=(match S.get v.over with | none=>0 | some b=>b.up) by
     unfold Fs.above;rw [hg];simp only;rw [if_neg (by simpa using hkd),if_pos hr,hv];rfl)
    have h3:1<a.dev:=hr.2;have hgd:=hao.dev.1;have hpz:=h.blk.lt;rw [hkd2] at h3 HG HR;obtain⟨n,hn⟩:∃ n,S.ds.length=n:=⟨_,rfl⟩;rw [hn] at pc hle;have hkn:k<n:=by omega
    have hk1:(a.kind == 1)=true:=by simpa using hkd
    have hk2:(a.kind != 1)=false:=by simpa using hkd
    have HD:=Lib.hid (fun w1 (hb1:Below w.heap.size w w1)=>And.intro (fun (hgv:S.get v.over=none)=>wget_no (h.keep hb1) hgv) (fun b (hgv:S.get v.over=some b)=>wget_yes (h.keep hb1) hgv));clear h hk hg hao hgc hc hv hrv hr hrt hdv hvk hn hkd2 hgd hkl hkd;go_enter Tryz.func174,Tryz.ntmps174;go_wp2_with fail;refine HN.out.mono ?_;rintro e w1 ⟨rfl,rfl⟩;go_wp2_with fail;refine HG.out.mono ?_;rintro e w1 ⟨rfl,hb1⟩;have B1:=Blk.new w1 #[.int .i64 a.no,.int .i64 ((k:Int)+1),.int .i64 a.kind,.int .i64 a.mode,.int .i64 a.uid,.int .i64 a.gid,.int .i64 a.mtime,.int .i64 a.ctime,.int .i64 a.links,.int .i64 a.up,.string a.data,.slice ea el ec] 163;have hb2:=balloc hb1 (.cells #[.int .i64 a.no,.int .i64 ((k:Int)+1),.int .i64 a.kind,.int .i64 a.mode,.int .i64 a.uid,.int .i64 a.gid,.int .i64 a.mtime,.int .i64 a.ctime,.int .i64 a.links,.int .i64 a.up,.string a.data,.slice ea el ec] 163);have hr1:=HR.out _ hb2;go_wp2_with fail;refine hr1.mono ?_;rintro e w2 ⟨rfl,rfl⟩;generalize w1.alloc (.cells #[.int .i64 a.no,.int .i64 ((k:Int)+1),.int .i64 a.kind,.int .i64 a.mode,.int .i64 a.uid,.int .i64 a.gid,.int .i64 a.mtime,.int .i64 a.ctime,.int .i64 a.links,.int .i64 a.up,.string a.data,.slice ea el ec] 163)=W at B1 hb2 hr1 ⊢;have hBn:=hb1.size;generalize w1.heap.size=Bn at B1 hBn ⊢;obtain⟨bc,bf,bz⟩:=B1.facts;rw [←hb2.cell (p:=⟨g,k*6+1,none⟩) hgl] at cc;have HP1:=Lib.hid (hb2.cell (p:=⟨pw,0,none⟩) hpz);have pc0:W.cell? ⟨pw,0,none⟩=_:=(hb2.cell (p:=⟨pw,0,none⟩) hpz).trans (pc 0);have pc1:W.cell? ⟨pw,1,none⟩=_:=(hb2.cell (p:=⟨pw,1,none⟩) hpz).trans (pc 1);go_wp2_with fail;have hw1:IntKind.i64.wrap ((k:Int)+1 - 1)=(k:Int):=by rw [IntKind.wrap_i64];omega
    have hw2:IntKind.i64.wrap (k:Int)=(k:Int):=by rw [IntKind.wrap_i64];omega
    have hb3:(k:Int)<(n:Int):=by omega
    have hb4:(0:Int)≤(k:Int):=by omega
    refine wp_region_lex 14 mixed (by kernel_rfl) then_panic ?_;simp only [List.take_succ_cons,List.take_zero,List.drop_succ_cons,List.drop_zero]
    repeat still_step
    refine wpStill_nil ?_
    cases hgv:S.get v.over with
    | none=>
     rw [hgv] at HA;have HC:=Lib.hid (((HD.out W.drew hb2.drew).1 hgv));unfold An.v an0 at HC;clear hgv HD;go_wp2_with fail;refine HC.out.mono ?_;rintro e w2 ⟨rfl,hb3⟩;obtain⟨bc3,bf3,bz3⟩:=(B1.drew.keep hb3).facts;have hb4:=bnext hb2.drew hb3;go_wp2_with fail;go_ret;exact⟨by rw [HA.out];rfl,by (repeat (refine Below.setCell ?_ hBn _));exact hb4⟩
    | some b=>
     rw [hgv] at HA;obtain⟨ea2,el2,ec2,-,hgc2⟩:=(HD.out W.drew hb2.drew).2 b hgv;have HC:=Lib.hid hgc2;unfold An.v at HC;clear hgv HD hgc2;go_wp2_with fail;refine HC.out.mono ?_;rintro e w2 ⟨rfl,hb3⟩;obtain⟨bc3,bf3,bz3⟩:=(B1.drew.keep hb3).facts;have hb4:=bnext hb2.drew hb3;go_wp2_with fail;go_ret;exact⟨by rw [HA.out];rfl,by (repeat (refine Below.setCell ?_ hBn _));exact hb4⟩
   ·have HA:=Lib.hid (show S.above no=a.up by unfold Fs.above;rw [hg];simp only;rw [if_neg (by simpa using hkd),if_neg hr]);have HR:=Lib.hid (fun w1 (hb1:Below w.heap.size w w1)=>wroot_any (h.keep hb1) hk.d1 a.dev);have hk1:(a.kind == 1)=true:=by simpa using hkd
    have hk2:(a.kind != 1)=false:=by simpa using hkd
    clear h hk hg hao hgc hkd;obtain⟨rt,hrt⟩:∃ rt,S.root a.dev=rt:=⟨_,rfl⟩;rw [hrt] at HR hr;by_cases h2:rt=no
    ·have h3:¬ 1<a.dev:=fun h3=>hr ⟨h2,h3⟩;have h4:(rt == no)=true:=by simpa using h2
     clear hr h2 hrt;go_enter Tryz.func174,Tryz.ntmps174;go_wp2_with fail;refine HN.out.mono ?_;rintro e w1 ⟨rfl,rfl⟩;go_wp2_with fail;refine HG.out.mono ?_;rintro e w1 ⟨rfl,hb1⟩;have hr1:=HR.out _ (balloc hb1 (.cells #[.int .i64 a.no,.int .i64 a.dev,.int .i64 a.kind,.int .i64 a.mode,.int .i64 a.uid,.int .i64 a.gid,.int .i64 a.mtime,.int .i64 a.ctime,.int .i64 a.links,.int .i64 a.up,.string a.data,.slice ea el ec] 163));go_wp2_with fail;refine hr1.mono ?_;rintro e w2 ⟨rfl,rfl⟩;go_wp2_with fail;go_ret;exact⟨by rw [HA.out];rfl,balloc hb1 _⟩
    ·have h4:(rt == no)=false:=by simpa using h2
     clear hr h2 hrt;go_enter Tryz.func174,Tryz.ntmps174;go_wp2_with fail;refine HN.out.mono ?_;rintro e w1 ⟨rfl,rfl⟩;go_wp2_with fail;refine HG.out.mono ?_;rintro e w1 ⟨rfl,hb1⟩;have hr1:=HR.out _ (balloc hb1 (.cells #[.int .i64 a.no,.int .i64 a.dev,.int .i64 a.kind,.int .i64 a.mode,.int .i64 a.uid,.int .i64 a.gid,.int .i64 a.mtime,.int .i64 a.ctime,.int .i64 a.links,.int .i64 a.up,.string a.data,.slice ea el ec] 163));go_wp2_with fail;refine hr1.mono ?_;rintro e w2 ⟨rfl,rfl⟩;go_wp2_with fail;go_ret;exact⟨by rw [HA.out];rfl,balloc hb1 _⟩
  ·have HA:=Lib.hid (show S.above no=0 by unfold Fs.above;rw [hg];simp only;rw [if_pos hkd]);clear h hk hg hao hgc;go_enter Tryz.func174,Tryz.ntmps174;go_wp2_with fail;refine HN.out.mono ?_;rintro e w1 ⟨rfl,rfl⟩;go_wp2_with fail;refine HG.out.mono ?_;rintro e w1 ⟨rfl,hb1⟩;go_wp2_with fail;go_ret;exact⟨by rw [HA.out];rfl,balloc hb1 _⟩
end
end
section
open Go.RowKit
theorem pmay_any (cu cg uid gid mode want:Int) (w:World) :
  Calls Tryz.prog 196 #[.agg #[.int .i64 cu,.int .i64 cg],.int .i64 uid,.int .i64 gid,.int .i64 mode,.int .i64 want] w fun e w'=>e=.returned (.bool (permB cu cg uid gid mode want))∧Below w.heap.size w w':=by
 unfold permB;by_cases h0:cu=0
 ·subst h0;rw [if_pos rfl];go_enter Tryz.func196,Tryz.ntmps196
  go_wp2
  go_ret;exact⟨rfl,by go_grown⟩
 ·rw [if_neg h0];have q0:(cu == 0)=false:=by simpa using h0
  by_cases h1:cu=uid
  ·subst h1;rw [if_pos rfl];go_enter Tryz.func196,Tryz.ntmps196
   go_wp2
   go_ret;exact⟨rfl,by go_grown⟩
  ·rw [if_neg h1];have q1:(cu == uid)=false:=by simpa using h1
   by_cases h2:cg=gid
   ·subst h2;rw [if_pos rfl];clear h0 h1;go_enter Tryz.func196,Tryz.ntmps196
    go_wp2
    go_ret;exact⟨rfl,by go_grown⟩
   ·rw [if_neg h2];have q2:(cg == gid)=false:=by simpa using h2
    clear h0 h1 h2;go_enter Tryz.func196,Tryz.ntmps196
    go_wp2
    go_ret;exact⟨rfl,by go_grown⟩
def Cr.v (c:Cr):Value:=.agg #[.int .i64 c.u,.int .i64 c.g]
theorem pnode_any (c:Cr) (a:An) (ea:Option Addr) (el ec:Nat) (want:Int) (w:World) :
  Calls Tryz.prog 146 #[c.v,a.v ea el ec,.int .i64 want] w fun e w'=>e=.returned (.bool (a.may c want))∧Below w.heap.size w w':=by
 unfold Cr.v An.v An.may;go_enter Tryz.func146,Tryz.ntmps146;go_wp2_with fail;refine (pmay_any _ _ _ _ _ _ _).mono ?_;rintro e w1 ⟨rfl,hb1⟩;go_wp2_with fail;go_ret;exact⟨rfl,bnext (balloc (balloc (Below.refl _ _) _) _) hb1⟩
theorem powns_any (c:Cr) (a:An) (ea:Option Addr) (el ec:Nat) (w:World) :
  Calls Tryz.prog 186 #[c.v,a.v ea el ec] w fun e w'=>e=.returned (.bool (ownsB c a))∧Below w.heap.size w w':=by
 unfold Cr.v An.v ownsB;go_enter Tryz.func186,Tryz.ntmps186
 go_wp2
 all_goals (go_ret;exact ⟨by first | rfl | simp [*],balloc (balloc (Below.refl _ _) _) _⟩)
theorem pfine_any (u g:Int) (w:World) :
  Calls Tryz.prog 156 #[.agg #[.int .i64 u,.int .i64 g]] w fun e w'=>e=.returned (.bool (idB u g))∧Below w.heap.size w w':=by
 unfold idB;go_enter Tryz.func156,Tryz.ntmps156
 go_wp2
 all_goals (go_ret;exact ⟨by simp [*];try omega,by go_grown⟩)
end
section
open Go.RowKit
theorem contains47_any (s:ByteArray) (w:World) :
  Calls Tryz.prog 108 #[.string s,.string (ByteArray.mk #[47])] w fun e w'=>e=.returned (.bool (hasB s 47))∧w=w':=by
 refine (Tryz.strings_Contains_one s 47 w).mono ?_;rintro e w' ⟨rfl,rfl⟩;refine ⟨ret_bool ?_,rfl⟩;unfold hasB;rw [decide_eq_decide];exact idx_pos 47 _
theorem ncheck_any (s:ByteArray) (w:World) (hs:s.size≤9223372036854775807) :
  Calls Tryz.prog 61 #[.string s] w fun e w'=>e=.returned (.int .i64 (checkE s))∧w=w':=by
 have hl:s.toList=s.data.toList:=ba_list s;have HC:=Lib.hid (show checkE s=if s.toList=[]∨s.toList=[46]∨s.toList=[46,46]∨hasB s 47=true∨hasB s 0=true then 1 else if 255<s.size then 13 else 0 by
  unfold checkE hasB;rw [hl];simp only [decide_eq_true_eq])
 have H47:=Lib.hid (contains47_any s);have H0:=Lib.hid (contains_any s);generalize hasB s 47=b47 at HC H47;generalize hasB s 0=b0 at HC H0;clear hl;by_cases h1:s.toList=[]
 ·have HE:=Lib.hid (HC.out.trans (if_pos (.inl h1)));go_enter Tryz.func61,Tryz.ntmps61;go_wp2_with fail;go_ret;exact⟨by rw [HE.out];rfl,rfl⟩
 ·have h1':s.toList.isEmpty=false:=by simpa using h1
  by_cases h2:s.toList=[46]
  ·have HE:=Lib.hid (HC.out.trans (if_pos (.inr (.inl h2))));go_enter Tryz.func61,Tryz.ntmps61;go_wp2_with fail;go_ret;exact⟨by rw [HE.out];rfl,rfl⟩
  ·have h2':(s.toList == [46])=false:=by simpa using h2
   by_cases h3:s.toList=[46,46]
   ·have HE:=Lib.hid (HC.out.trans (if_pos (.inr (.inr (.inl h3)))));go_enter Tryz.func61,Tryz.ntmps61;go_wp2_with fail;go_ret;exact⟨by rw [HE.out];rfl,rfl⟩
   ·have h3':(s.toList == [46,46])=false:=by simpa using h3
    cases b47
    ·cases b0
     ·have HE:=Lib.hid (HC.out.trans (if_neg (by simp [h1,h2,h3])));by_cases h4:255<s.size
      ·have HE2:=Lib.hid (HE.out.trans (if_pos h4));have h4':(255:Int)<(s.size:Int):=by omega
       go_enter Tryz.func61,Tryz.ntmps61;go_wp2_with (first | (go_at_call 108;((with_reducible refine (H47.out _).mono ?_);rintro e w1 ⟨rfl,rfl⟩)) | (go_at_call 108;((with_reducible refine (H0.out _).mono ?_);rintro e w1 ⟨rfl,rfl⟩)));go_ret;exact⟨by rw [HE2.out];rfl,rfl⟩
      ·have HE2:=Lib.hid (HE.out.trans (if_neg h4));have h4':¬ (255:Int)<(s.size:Int):=by omega
       go_enter Tryz.func61,Tryz.ntmps61;go_wp2_with (first | (go_at_call 108;((with_reducible refine (H47.out _).mono ?_);rintro e w1 ⟨rfl,rfl⟩)) | (go_at_call 108;((with_reducible refine (H0.out _).mono ?_);rintro e w1 ⟨rfl,rfl⟩)));go_ret;exact⟨by rw [HE2.out];rfl,rfl⟩
     ·have HE:=Lib.hid (HC.out.trans (if_pos (by simp)));go_enter Tryz.func61,Tryz.ntmps61;go_wp2_with (first | (go_at_call 108;((with_reducible refine (H47.out _).mono ?_);rintro e w1 ⟨rfl,rfl⟩)) | (go_at_call 108;((with_reducible refine (H0.out _).mono ?_);rintro e w1 ⟨rfl,rfl⟩)));go_ret;exact⟨by rw [HE.out];rfl,rfl⟩
    ·have HE:=Lib.hid (HC.out.trans (if_pos (by simp)));go_enter Tryz.func61,Tryz.ntmps61;go_wp2_with (go_at_call 108;((with_reducible refine (H47.out _).mono ?_);rintro e w1 ⟨rfl,rfl⟩));go_ret;exact⟨by rw [HE.out];rfl,rfl⟩
end
end Go.Proofs.YtbndfmkgamdgeaaGreatDoor
